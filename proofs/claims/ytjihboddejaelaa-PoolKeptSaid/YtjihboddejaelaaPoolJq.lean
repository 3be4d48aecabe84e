/-
  The law PoolKept: what follows the loop.
-/
import Derived.Test.YtjihboddejaelaaPk11
import Derived.Deep.CutBlock
import Derived.Deep.DeepCutAuto
import Derived.Deep.RegionHeld3
import Derived.BigQuiet
import Derived.Test.YtjihboddejaelaaPk7
namespace Go.Proofs.Ytjihboddejaelaa
set_option linter.unusedVariables false
set_option linter.unusedSimpArgs false
open Go.RowKit
open Go.BigFrame
open Go.Maps
attribute [local go_sem] OpGood goodUpon fillA Act.put
set_option linter.unusedVariables false
set_option linter.unusedSimpArgs false

/-- a disk in the blocks b, and the two sheets that are read at the end -/
structure Hd2 (w0 w : World) (b : List (Option Nat)) (xk xm mk mm c qk qm : Nat) (TK TM : Nat → Option ByteArray) : Prop where
  low : ∀ k, some k ∈ b → w0.heap.size ≤ k
  bel : Below w0.heap.size w0 w
  k : Sheet w b w0.heap.size xk mk c qk TK
  m : Sheet w b w0.heap.size xm mm c qm TM
section
variable {w0 w w' : World} {b b' : List (Option Nat)} {xk xm mk mm c qk qm : Nat} {TK TM : Nat → Option ByteArray}
theorem Hd2.turn (h : Hd2 w0 w b xk xm mk mm c qk qm TK TM) (ht : Turn b b' w w') : Hd2 w0 w' b' xk xm mk mm c qk qm TK TM :=
  ⟨ht.low h.low h.bel.size, ht.bel h.bel h.low h.bel.size, h.k.turn ht, h.m.turn ht⟩
theorem Sheet.less {z z' : List (Option Nat)} {lo x m q : Nat} {T : Nat → Option ByteArray} (h : Sheet w z lo x m c q T) (hs : ∀ k, some k ∈ z' → some k ∈ z) : Sheet w z' lo x m c q T :=
  ⟨h.has, h.map, fun h2 => h.offx (hs _ h2), fun h2 => h.offm (hs _ h2), h.low, h.lowm⟩
theorem Hd2.less (h : Hd2 w0 w b xk xm mk mm c qk qm TK TM) (hs : ∀ k, some k ∈ b' → some k ∈ b) : Hd2 w0 w b' xk xm mk mm c qk qm TK TM :=
  ⟨fun k hk => h.low k (hs k hk), h.bel, h.k.less hs, h.m.less hs⟩
theorem Sheet.fresh {z z' : List (Option Nat)} {lo x m q : Nat} {T : Nat → Option ByteArray} (h : Sheet w z lo x m c q T) (ht : Turn [] z' w w') : Sheet w' z' lo x m c q T :=
  ⟨h.has.belowS ht.belowN, h.map.below ht.belowN, fun h2 => (by have := ht.newN _ h2; have := h.has.lt; omega), fun h2 => (by have := ht.newN _ h2; have := h.map.lt; omega), h.low, h.lowm⟩
theorem Hd2.fresh (h : Hd2 w0 w b xk xm mk mm c qk qm TK TM) (ht : Turn [] b' w w') : Hd2 w0 w' b' xk xm mk mm c qk qm TK TM :=
  ⟨fun k hk => Nat.le_trans h.bel.size (ht.newN k hk), bel_step h.bel ht.belowN h.bel.size, h.k.fresh ht, h.m.fresh ht⟩
theorem KP.hd {gd p xn mn qn : Nat} {x : Bx} {P : Pl} {TN : Nat → Option ByteArray} (h : KP w0 w gd p x P xk xn xm mk mn mm c qk qn qm TK TN TM) : Hd2 w0 w x.b xk xm mk mm c qk qm TK TM :=
  ⟨fun k hk => h.low k (List.mem_append_left _ (List.mem_append_left _ hk)), h.bel, h.k.less fun k hk => List.mem_append_left _ (List.mem_append_left _ hk), h.m.less fun k hk => List.mem_append_left _ (List.mem_append_left _ hk)⟩
end
theorem forgot_log (L : Lg) (most : Nat) : (Pl.forgot L most).1.L = L := by
  unfold Pl.forgot
  split
  · split <;> rfl
  · rfl

/-- where the loop ends -/
def EndP (w0 w : World) (gd p xk xn xm : Nat) (r : Bool) : Prop :=
  ∃ (x : Bx) (P : Pl) (B : Bk) (mk mn mm c qn qm : Nat) (TK TN TM : Nat → Option ByteArray), KP w0 w gd p x P xk xn xm mk mn mm c B.q qn qm TK TN TM ∧ Fit P.L.D 1000 ∧ (r = false → P.L.D.down = true) ∧ Bad P B TK qm TM
/-- the code behind n statements -/
def behind : Nat → Code → Code
  | 0, c => c
  | n + 1, .seq _ b => behind n b
  | _ + 1, c => c

set_option maxRecDepth 100000 in
set_option maxHeartbeats 100000000 in
theorem law_rest (A : Option Addr) (n c N : Nat) (fails again : Int) (KA : Option Addr) (kn kc : Nat) (ks : List Int) (w : World) (pa : Nat) (PA : Hid (∀ w1 : World, Calls Try.prog 14 #[.int .i64 again, .int .i64 8] w1 fun e w' => e = .returned (.int .i64 pa) ∧ w1 = w')) (PA1 : Hid (pa < 8))
    (HK : Hid (IS w KA kn ks)) (HKB : Hid (0 < kn → ∀ k, blkOf KA = some k → k < w.heap.size)) (HKN : Hid (kn ≤ 9223372036854775807)) (gd p xk xn xm : Nat) (wc : World) (u11 u15 u17 u18 u19 u20 u21 u22 u25 u26 u27 u28 u29 u30 u31 u32 u33 u34 u35 u36 u37 u38 u39 u40 u41 u42 u43 u44 u45 u46 u50 u51 u52 u53 u54 u55 u56 u57 u58 u59 u60 u61 u62 u63 u64 u65 u66 u67 u68 u69 u70 u71 u72 u73 u74 u75 u76 u77 u78 u79 u80 u81 u82 u83 u84 u85 u86 u87 u88 u89 u90 u91 u92 u93 u94 u95 u96 u97 u98 u99 u100 u101 u102 u103 u104 u105 u106 u107 u108 u109 u110 u111 u112 u113 u114 u115 u116 u117 u118 u119 u120 u121 u122 u123 u124 u125 u126 u127 u128 u129 u130 u131 u132 u133 u134 u135 u136 u137 u138 u139 u140 u141 u142 u143 u144 u145 u146 u147 u148 u149 u150 u151 u152 u153 u154 u155 u156 u157 u158 u159 u160 u161 u162 u163 u164 u165 u166 u167 u168 u169 u170 u171 u172 u173 u174 u175 u176 u177 u178 u179 u180 u181 u182 u183 u184 u185 u186 u187 u188 u189 u190 u191 u192 u193 u194 u195 u196 u197 u198 u199 u200 u201 u202 u203 u204 u205 u206 u207 u208 u209 u210 u211 u212 u213 u214 u215 u216 : Value) (hcut : ∃ r : Bool, u15 = .bool r ∧ EndP w wc gd p xk xn xm r) :
    Code.wp Try.prog (behind 10 (Try.f6.body.getD .skip)) (bodyPost Try.prog Try.f6 fun e w' => e = .returned (.bool true) ∧ Below w.heap.size w w') { tmps := #[.slice A n c, .int .i64 fails, .int .i64 again, .slice KA kn kc, undef, undef, undef, undef, .bool false, .pointer (some ⟨gd, 0, none⟩), ptrB p, u11, .pointer (some ⟨xk, 0, none⟩), ptrB xn, ptrB xm, u15, undef, u17, u18, u19, u20, u21, u22, undef, undef, u25, u26, u27, u28, u29, u30, u31, u32, u33, u34, u35, u36, u37, u38, u39, u40, u41, u42, u43, u44, u45, u46, .slice A n c, .slice A N c, .int .i64 N, u50, u51, u52, u53, u54, u55, u56, u57, u58, u59, u60, u61, u62, u63, u64, u65, u66, u67, u68, u69, u70, u71, u72, u73, u74, u75, u76, u77, u78, u79, u80, u81, u82, u83, u84, u85, u86, u87, u88, u89, u90, u91, u92, u93, u94, u95, u96, u97, u98, u99, u100, u101, u102, u103, u104, u105, u106, u107, u108, u109, u110, u111, u112, u113, u114, u115, u116, u117, u118, u119, u120, u121, u122, u123, u124, u125, u126, u127, u128, u129, u130, u131, u132, u133, u134, u135, u136, u137, u138, u139, u140, u141, u142, u143, u144, u145, u146, u147, u148, u149, u150, u151, u152, u153, u154, u155, u156, u157, u158, u159, u160, u161, u162, u163, u164, u165, u166, u167, u168, u169, u170, u171, u172, u173, u174, u175, u176, u177, u178, u179, u180, u181, u182, u183, u184, u185, u186, u187, u188, u189, u190, u191, u192, u193, u194, u195, u196, u197, u198, u199, u200, u201, u202, u203, u204, u205, u206, u207, u208, u209, u210, u211, u212, u213, u214, u215, u216], defers := [] } wc := by
  conv =>
    arg 2
    simp only [Try.f6, Option.getD, behind]
  conv =>
    arg 4
    dsimp only
  obtain ⟨r, rfl, x, P, B, mk, mn, mm, c', qn, qm, TK, TN, TM, hkp, hft, hdn, hbad⟩ := hcut
  have H0 := Lib.hid hkp.hd
  have HP := Lib.hid (show DP wc x.b gd P.L.D from hkp.pm.log.disk)
  have FT := Lib.hid hft
  have DN := Lib.hid hdn
  have BD := Lib.hid hbad
  obtain ⟨D, hD⟩ : ∃ D, P.L.D = D := ⟨_, rfl⟩
  rw [hD] at HP FT DN
  clear hkp hdn hft hbad
  generalize wc = WC at *
  go_upto_region 47 with fail
  go_cut [165] from 159 to 165 (fun s165 wx => s165 = .bool false ∧ wx = WC)
  case first =>
    cases r
    · have hd2 := disk_Down gd D x.b WC HP.out
      rw [DN.out rfl] at hd2
      have TD := Lib.hid hd2
      clear hd2
      go_wp2_with (go_at_call 22; (with_reducible refine TD.out.mono ?_); rintro e w3 ⟨rfl, rfl⟩)
      go_meet
      exact ⟨rfl, rfl⟩
    · go_wp2_with fail
      go_meet
      exact ⟨rfl, rfl⟩
  case rest =>
    obtain ⟨rfl, rfl⟩ := hcut
    have CR := Lib.hid (fun b1 w1 D (h1 : DP w1 b1 gd D) (hd : Hd2 w w1 b1 xk xm mk mm c' B.q qm TK TM) (hok : D.ok) (hw : D.waits.length ≤ 1000000000) => disk_Crash gd D b1 KA kn kc ks w1 h1 hok hw (HK.out.keep hd.bel) HKN.out (fun h0 k hk h2 => by have := HKB.out h0 k hk; have := hd.low k h2; omega))
    have f1 : Fit ((D.crash ks).fail pa) 1000 := fail_fit (crash_fit FT.out ks) (by have := PA1.out; omega)
    obtain ⟨X, TX, fX, hXq, hXg, hXt, hXc⟩ : ∃ (X : Bk) (TX : Nat → Option ByteArray) (fX : Nat), X.q ≤ 60000 ∧ Good X TX fX ∧ TellsT ((D.crash ks).fail pa).l1 (HoldsQ X) ∧ ((X.q = B.q ∧ TX = TK) ∨ (X.q = qm ∧ TX = TM)) := by
      rw [← hD]
      obtain ⟨⟨fB, hg⟩, hq, ht⟩ := BD.out
      rcases ht ks with ht | ⟨M, fM, h1, h2, h3, h4⟩
      · exact ⟨B, TK, fB, hq, hg, ht, .inl ⟨rfl, rfl⟩⟩
      · exact ⟨M, TM, fM, h3, h2, h4, .inr ⟨h1, rfl⟩⟩
    have dn1 : ((D.crash ks).fail pa).down = false := rfl
    have ws1 : ((D.crash ks).fail pa).waits = [] := rfl
    have TF := Lib.hid (fun b1 w1 (h1 : DP w1 b1 gd (D.crash ks)) => disk_Fail gd (D.crash ks) b1 pa w1 h1)
    obtain ⟨D1, hD1⟩ : ∃ D1, (D.crash ks).fail pa = D1 := ⟨_, rfl⟩
    rw [hD1] at f1 hXt dn1 ws1 TF
    have sn : D1.seen 1 = D1.l1 := by unfold Dk.seen; rw [ws1]; rfl
    have hne : slotIx (D1.seen 1) ≠ 2 := by rw [sn]; exact hXt.1
    have hop : Lg.opened D1 = ⟨D1, framesOf (D1.seen 1) (slotOf (D1.seen 1) (slotIx (D1.seen 1))).2.1, (slotOf (D1.seen 1) (slotIx (D1.seen 1))).2.1, (slotOf (D1.seen 1) (slotIx (D1.seen 1))).2.2, slotIx (D1.seen 1), (slotOf (D1.seen 1) (slotIx (D1.seen 1))).1⟩ := if_neg hne
    have lok1 : (Lg.opened D1).ok := opened_ok f1.ok
    have lfit1 : Fit (Lg.opened D1).D 4 := by rw [hop]; exact f1.less (by omega)
    have lpg1 : (Lg.opened D1).pages ≠ 0 := by
      have h1 : (Lg.opened D1).pages = X.q := by rw [hop, sn]; exact hXt.2.1
      have := hXg.pos
      omega
    have OP1 := Lib.hid (fun b1 w1 (h1 : DP w1 b1 gd D1) => pool_Open b1 gd D1 8 (Nat.le_refl _) (by omega) w1 h1 (f1.less (by omega)) dn1 (fun h => absurd h hne) lok1 lfit1 (fun h => absurd h lpg1))
    have OE := Lib.hid (show (Pl.opened D1 8).1.L.rw.D = D1 from by
      have e1 : Pl.begun D1 = Lg.opened D1 := if_neg lpg1
      unfold Pl.opened
      rw [e1, forgot_log, hop]; rfl)
    obtain ⟨Q1, hQ1⟩ : ∃ Q, (Pl.opened D1 8).1 = Q := ⟨_, rfl⟩
    obtain ⟨E1, hE1⟩ : ∃ E, (Pl.opened D1 8).2 = E := ⟨_, rfl⟩
    rw [hQ1, hE1, show ((8 : Nat) : Int) = 8 from rfl] at OP1
    rw [hQ1] at OE
    have e0 : (D1.crash ks).l0 = D1.l0 := by show crashL ks D1.waits 0 0 D1.l0 = _; rw [ws1]; rfl
    have e1 : (D1.crash ks).l1 = D1.l1 := by show crashL ks D1.waits 0 1 D1.l1 = _; rw [ws1]; rfl
    have MV := Lib.hid (fun b1 w1 (h1 : DP w1 b1 gd (D1.crash ks)) => keep_moved b1 gd (D1.crash ks) w1 h1 (Dk.crash_ok f1.ok ks) rfl rfl)
    unfold MovedPost at MV
    rw [e0, e1] at MV
    have ok4 : (plainD D1.l0 D1.l1 (-1) 4).ok := ⟨f1.ok.l0, f1.ok.l1, fun c hc => (by cases hc), by show -1 ≤ (-1 : Int) ∧ (-1 : Int) ≤ 9223372036854775807; decide⟩
    have f4 : Fit (plainD D1.l0 D1.l1 (-1) 4) 1000000 := ⟨ok4, by show 4 + 1000000 ≤ _; decide, by show 0 + 1000000 ≤ _; decide⟩
    have lok : (Lg.opened (plainD D1.l0 D1.l1 (-1) 4)).ok := opened_ok ok4
    obtain ⟨t1, t2, t3⟩ := tells_opened (l0 := D1.l0) (f := -1) hXt 4
    have lpg : (Lg.opened (plainD D1.l0 D1.l1 (-1) 4)).pages ≠ 0 := by have := hXg.pos; omega
    have lfit : Fit (Lg.opened (plainD D1.l0 D1.l1 (-1) 4)).D 1000000 := by rw [t1]; exact f4
    have ldn : (Lg.opened (plainD D1.l0 D1.l1 (-1) 4)).D.down = false := by rw [t1]; rfl
    obtain ⟨g1, g2⟩ := forgot_text lok ldn hXg hXq t3 8
    have OP2 := Lib.hid (fun b1 gg w1 (h1 : DP w1 b1 gg (plainD D1.l0 D1.l1 (-1) 4)) => by
      have := pool_Open b1 gg (plainD D1.l0 D1.l1 (-1) 4) 8 (Nat.le_refl _) (by omega) w1 h1 (f4.less (by omega)) rfl (fun _ => ⟨rfl, rfl⟩) lok (lfit.less (by omega)) (fun h => absurd h lpg)
      rw [show Pl.opened (plainD D1.l0 D1.l1 (-1) 4) 8 = ({ Pl.fresh (Lg.opened (plainD D1.l0 D1.l1 (-1) 4)) 8 with free := fX }, 0) from by
        have e1 : Pl.begun (plainD D1.l0 D1.l1 (-1) 4) = Lg.opened (plainD D1.l0 D1.l1 (-1) 4) := if_neg lpg
        unfold Pl.opened
        rw [e1, g1], show ((8 : Nat) : Int) = 8 from rfl] at this
      exact this)
    have PV := Lib.hid (fresh_view lok ldn t2 t3 (most := 8) (fB := fX) ⟨by omega, by omega⟩ hXq g2)
    have PF := Lib.hid (show Fit ({ Pl.fresh (Lg.opened (plainD D1.l0 D1.l1 (-1) 4)) 8 with free := fX } : Pl).L.D 1000000 from lfit)
    obtain ⟨Q2, hQ2⟩ : ∃ Q, ({ Pl.fresh (Lg.opened (plainD D1.l0 D1.l1 (-1) 4)) 8 with free := fX } : Pl) = Q := ⟨_, rfl⟩
    rw [hQ2] at PV PF
    dsimp only at OP2
    rw [hQ2] at OP2
    have XG := Lib.hid hXg; have XC := Lib.hid hXc; have XQ := Lib.hid hXq
    have O1 := Lib.hid f1.ok
    have OK := Lib.hid FT.out.ok
    have W1 := Lib.hid (show D1.waits.length ≤ 1000000000 by rw [ws1]; exact Nat.zero_le _)
    clear f1 dn1 ws1 hD1 sn hne hop lok1 lfit1 lpg1 hQ1 hE1 e0 e1 ok4 f4 lok t1 t2 t3 lpg lfit ldn g1 g2 hQ2 hXt hXg hXc hXq DN BD hD
    go_upto_region 57 with (first
      | (go_at_call 23; (refine (CR.out b3 _ D1 HP3.out H3.out O1.out W1.out).mono ?_); rintro e w4 ⟨rfl, b4, hp4, ht4⟩; have HP4 := Lib.hid hp4; have H4 := Lib.hid (H3.out.turn ht4); clear hp4 ht4)
      | (go_at_call 23; (refine (CR.out x.b _ D HP.out H0.out OK.out (by have := FT.out.waits; omega)).mono ?_); rintro e w1 ⟨rfl, b1, hp1, ht1⟩; have HP1 := Lib.hid hp1; have H1 := Lib.hid (H0.out.turn ht1); clear hp1 ht1)
      | (go_at_call 14; (with_reducible refine (PA.out _).mono ?_); rintro e w7 ⟨rfl, rfl⟩)
      | (go_at_call 13; (refine (TF.out b1 _ HP1.out).mono ?_); rintro e w2 ⟨rfl, b2', hp2, ht2⟩; have HP2 := Lib.hid hp2; have H2 := Lib.hid (H1.out.turn ht2); clear hp2 ht2)
      | (go_at_call 40; (refine (OP2.out _ _ _ HP5.out).mono ?_); rintro e w6 ⟨b6, g6, n5, n6, p6, e6, h6, t6, rfl, hl6, ht6⟩; have HL6 := Lib.hid hl6; have H6 := Lib.hid (H5.out.turn ht6); clear hl6 ht6)
      | (go_at_call 40; (refine (OP1.out _ _ HP2.out).mono ?_); rintro e w3 ⟨b3, g3, n1, n2, p3, e3, h3, t3, rfl, hl3, ht3⟩; have hp3 := hl3.log.disk; rw [OE.out] at hp3; have HP3 := Lib.hid hp3; have H3 := Lib.hid ((H2.out.turn ht3).less (b' := b3) (fun k hk => List.mem_append_left _ (List.mem_append_left _ hk))); clear hl3 ht3 hp3)
      | (go_at_call 24; (refine (MV.out _ _ HP4.out).mono ?_); rintro e w5 ⟨gn, bn, rfl, hp5, ht5⟩; have HP5 := Lib.hid hp5; have H5 := Lib.hid (H4.out.fresh ht5); clear hp5 ht5))
    have PGS := Lib.hid (fun (u : World) (b : List (Option Nat)) (n3 n4 : Nat) (A : List Nat) (P' : Pl) (h : PM u b gn g6 n3 n4 p6 e6 h6 t6 A P') (hv : PView P' X) => by
      have := pool_Pages b gn g6 n3 n4 p6 e6 h6 t6 A P' u h
      rw [show (P'.pages : Int) = (X.q : Int) by rw [hv.pages]] at this
      exact this)
    have RDS := Lib.hid (fun (u : World) (b : List (Option Nat)) (n3 n4 : Nat) (A : List Nat) (P' : Pl) (h : PM u b gn g6 n3 n4 p6 e6 h6 t6 A P') (hv : PView P' X) (k mb : Nat) (T : Nat → Option ByteArray) (hf : Fit P'.L.D (X.q + k)) (hm : MS u mb c' (lift T)) (ho : some mb ∉ allB b g6 n3 n4 p6 e6 h6 t6 A) => keep_read b gn g6 n3 n4 p6 e6 h6 t6 A P' (fun R => PView R X) X.K X.q k mb c' T u h hm ho hv view_reads XQ.out hf)
    have NM := Lib.hid (show ¬ Misread TX X.K X.q from fun ⟨n, t, hn, h1, h2⟩ => h2 (XG.out.text n t h1).2.2)
    clear CR TF OP1 OE OP2 MV O1 OK W1 H0 HP FT HP1 H1 HP2 H2 HP3 H3 HP4 H4 HP5 H5
    have HL6 := Lib.hid (HL6.out.below (Below.refl w6.heap.size w6).drew)
    have HD6 := Lib.hid (H6.out.turn (Turn.below _ (Below.refl w6.heap.size w6).drew))
    have PV6 := PV
    have FT6 := PF
    rcases XC.out with ⟨hq, hT⟩ | ⟨hq, hT⟩
    · as_aux_lemma =>
        rw [← hq] at HD6
        rw [hT] at NM
        clear hq hT XC XG H6
        have HC6 : w6.drew.cell? ⟨xk, 0, none⟩ = some (.int .i64 X.q) ∧ w6.drew.cell? ⟨xk, 1, none⟩ = some (.map (some mk)) ∧ w6.drew.cell? ⟨xm, 0, none⟩ = some (.int .i64 qm) ∧ w6.drew.cell? ⟨xm, 1, none⟩ = some (.map (some mm)) := ⟨HD6.out.k.has.cell 0, HD6.out.k.has.cell 1, HD6.out.m.has.cell 0, HD6.out.m.has.cell 1⟩
        obtain ⟨x06, x16, y06, y16⟩ := HC6
        refine wp_region_held_drew (S := fun w' => w'.cell? ⟨xk, 0, none⟩ = some (.int .i64 X.q) ∧ w'.cell? ⟨xk, 1, none⟩ = some (.map (some mk)) ∧ w'.cell? ⟨xm, 0, none⟩ = some (.int .i64 qm) ∧ w'.cell? ⟨xm, 1, none⟩ = some (.map (some mm))) (by kernel_rfl) ?_ (fun hHeld => ?_)
        · exact ⟨x06, x16, y06, y16⟩
        generalize w6.drew = u at *
        refine wpAnyH_take (i := 0) (oi := _) (v := ?_) rfl (by kernel_rfl) (by kernel_rfl) (by kernel_rfl) (fun _ _ _ h => h) (Or.inl ⟨by kernel_rfl, ?_⟩) (by assumption) ?_
        rotate_left
        any_goals (intro w hSw; (try dsimp only at hSw); go_simp; first | done | (with_reducible rfl))
        try simp only [Act.put, List.getElem_toArray, List.getElem_cons_succ, List.getElem_cons_zero, List.setIfInBounds_toArray, List.set_cons_zero, List.set_cons_succ]
        refine wpAnyH_take (i := 1) (oi := _) (v := ?_) rfl (by kernel_rfl) (by kernel_rfl) (by kernel_rfl) (fun _ _ _ h => h) (Or.inl ⟨by kernel_rfl, ?_⟩) (by assumption) ?_
        rotate_left
        any_goals (intro w hSw; (try dsimp only at hSw); go_simp; first | done | (with_reducible rfl))
        try simp only [Act.put, List.getElem_toArray, List.getElem_cons_succ, List.getElem_cons_zero, List.setIfInBounds_toArray, List.set_cons_zero, List.set_cons_succ]
        refine wpAnyH_take (i := 2) (oi := _) (v := ?_) rfl (by kernel_rfl) (by kernel_rfl) (by kernel_rfl) (fun _ _ _ h => h) (Or.inl ⟨by kernel_rfl, ?_⟩) (by assumption) ?_
        rotate_left
        any_goals (intro w hSw; (try dsimp only at hSw); go_simp; first | done | (with_reducible rfl))
        try simp only [Act.put, List.getElem_toArray, List.getElem_cons_succ, List.getElem_cons_zero, List.setIfInBounds_toArray, List.set_cons_zero, List.set_cons_succ]
        refine wpAnyH_take (i := 3) (oi := _) (v := ?_) rfl (by kernel_rfl) (by kernel_rfl) (by kernel_rfl) (fun _ _ _ h => h) (Or.inl ⟨by kernel_rfl, ?_⟩) (by assumption) ?_
        rotate_left
        any_goals (intro w hSw; (try dsimp only at hSw); go_simp; first | done | (with_reducible rfl))
        try simp only [Act.put, List.getElem_toArray, List.getElem_cons_succ, List.getElem_cons_zero, List.setIfInBounds_toArray, List.set_cons_zero, List.set_cons_succ]
        refine wpAnyH_take (i := 4) (oi := _) (v := ?_) rfl (by kernel_rfl) (by kernel_rfl) (by kernel_rfl) (fun _ _ _ h => h) (Or.inl ⟨by kernel_rfl, ?_⟩) (by assumption) ?_
        rotate_left
        any_goals (intro w hSw; (try dsimp only at hSw); go_simp; first | done | (with_reducible rfl))
        try simp only [Act.put, List.getElem_toArray, List.getElem_cons_succ, List.getElem_cons_zero, List.setIfInBounds_toArray, List.set_cons_zero, List.set_cons_succ]
        refine wpAnyH_take (i := 5) (oi := _) (v := ?_) rfl (by kernel_rfl) (by kernel_rfl) (by kernel_rfl) (fun _ _ _ h => h) (Or.inl ⟨by kernel_rfl, ?_⟩) (by assumption) ?_
        rotate_left
        any_goals (intro w hSw; (try dsimp only at hSw); go_simp; first | done | (with_reducible rfl))
        try simp only [Act.put, List.getElem_toArray, List.getElem_cons_succ, List.getElem_cons_zero, List.setIfInBounds_toArray, List.set_cons_zero, List.set_cons_succ]
        refine wpAnyH_take (i := 6) (oi := _) (v := ?_) rfl (by kernel_rfl) (by kernel_rfl) (by kernel_rfl) (fun _ _ _ h => h) (Or.inl ⟨by kernel_rfl, ?_⟩) (by assumption) ?_
        rotate_left
        any_goals (intro w hSw; (try dsimp only at hSw); go_simp; first | done | (with_reducible rfl))
        try simp only [Act.put, List.getElem_toArray, List.getElem_cons_succ, List.getElem_cons_zero, List.setIfInBounds_toArray, List.set_cons_zero, List.set_cons_succ]
        refine wpAnyH_take (i := 7) (oi := _) (v := ?_) rfl (by kernel_rfl) (by kernel_rfl) (by kernel_rfl) (fun _ _ _ h => h) (Or.inl ⟨by kernel_rfl, ?_⟩) (by assumption) ?_
        rotate_left
        any_goals (intro w hSw; (try dsimp only at hSw); go_simp; first | done | (with_reducible rfl))
        try simp only [Act.put, List.getElem_toArray, List.getElem_cons_succ, List.getElem_cons_zero, List.setIfInBounds_toArray, List.set_cons_zero, List.set_cons_succ]
        refine wpAnyH_take (i := 9) (oi := _) (v := ?_) rfl (by kernel_rfl) (by kernel_rfl) (by kernel_rfl) (fun _ _ _ h => h) (Or.inl ⟨by kernel_rfl, ?_⟩) (by assumption) ?_
        rotate_left
        any_goals (intro w hSw; (try dsimp only at hSw); go_simp; first | done | (with_reducible rfl))
        try simp only [Act.put, List.getElem_toArray, List.getElem_cons_succ, List.getElem_cons_zero, List.setIfInBounds_toArray, List.set_cons_zero, List.set_cons_succ]
        refine wpAnyH_take (i := 10) (oi := _) (v := ?_) rfl (by kernel_rfl) (by kernel_rfl) (by kernel_rfl) (fun _ _ _ h => h) (Or.inl ⟨by kernel_rfl, ?_⟩) (by assumption) ?_
        rotate_left
        any_goals (intro w hSw; (try dsimp only at hSw); go_simp; first | done | (with_reducible rfl))
        try simp only [Act.put, List.getElem_toArray, List.getElem_cons_succ, List.getElem_cons_zero, List.setIfInBounds_toArray, List.set_cons_zero, List.set_cons_succ]
        refine wpAnyH_ready (rs := [8]) (by kernel_rfl) (by simp) ?_
        refine AllReadyH.cons (o := _) rfl (fun K hK => ?_) AllReadyH.nil
        go_simp
        (go_at_call 48; refine (PGS.out _ _ _ _ _ _ HL6.out PV6.out).mono ?_; rintro e w7 ⟨rfl, rfl⟩)
        (try go_wp2_with fail)
        refine hK.out _ _ ?_ (fun hHeld => ?_)
        · exact ⟨x06, x16, y06, y16⟩
        clear hK K
        try simp only [Act.put, List.getElem_toArray, List.getElem_cons_succ, List.getElem_cons_zero, List.setIfInBounds_toArray, List.set_cons_zero, List.set_cons_succ]
        refine wpAnyH_take (i := 11) (oi := _) (v := ?_) rfl (by kernel_rfl) (by kernel_rfl) (by kernel_rfl) (fun _ _ _ h => h) (Or.inl ⟨by kernel_rfl, ?_⟩) (by assumption) ?_
        rotate_left
        any_goals (intro w hSw; (try dsimp only at hSw); go_simp; first | done | (with_reducible rfl))
        try simp only [Act.put, List.getElem_toArray, List.getElem_cons_succ, List.getElem_cons_zero, List.setIfInBounds_toArray, List.set_cons_zero, List.set_cons_succ]
        refine wpAnyH_take (i := 12) (oi := _) (v := ?_) rfl (by kernel_rfl) (by kernel_rfl) (by kernel_rfl) (fun _ _ _ h => h) (Or.inl ⟨by kernel_rfl, ?_⟩) (by assumption) ?_
        rotate_left
        any_goals (intro w hSw; (try dsimp only at hSw); go_simp; first | done | (with_reducible rfl))
        try simp only [Act.put, List.getElem_toArray, List.getElem_cons_succ, List.getElem_cons_zero, List.setIfInBounds_toArray, List.set_cons_zero, List.set_cons_succ]
        refine wpAnyH_take (i := 13) (oi := _) (v := ?_) rfl (by kernel_rfl) (by kernel_rfl) (by kernel_rfl) (fun _ _ _ h => h) (Or.inl ⟨by kernel_rfl, ?_⟩) (by assumption) ?_
        rotate_left
        any_goals (intro w hSw; (try dsimp only at hSw); go_simp; first | done | (with_reducible rfl))
        try simp only [Act.put, List.getElem_toArray, List.getElem_cons_succ, List.getElem_cons_zero, List.setIfInBounds_toArray, List.set_cons_zero, List.set_cons_succ]
        refine wpAnyH_take (i := 14) (oi := _) (v := ?_) rfl (by kernel_rfl) (by kernel_rfl) (by kernel_rfl) (fun _ _ _ h => h) (Or.inl ⟨by kernel_rfl, ?_⟩) (by assumption) ?_
        rotate_left
        any_goals (intro w hSw; (try dsimp only at hSw); go_simp; first | done | (with_reducible rfl))
        try simp only [Act.put, List.getElem_toArray, List.getElem_cons_succ, List.getElem_cons_zero, List.setIfInBounds_toArray, List.set_cons_zero, List.set_cons_succ]
        refine wpAnyH_ready (rs := [15]) (by kernel_rfl) (by simp) ?_
        refine AllReadyH.cons (o := _) rfl (fun K hK => ?_) AllReadyH.nil
        go_simp
        (go_at_call 47; refine (RDS.out _ _ _ _ _ _ HL6.out PV6.out 70000 mk TK (FT6.out.less (by have := XQ.out; omega)) HD6.out.k.map HD6.out.k.offm).mono ?_; rintro en w8 ⟨r8, P8, b8, n78, n88, A8, rfl, hv, hf, hr, hpm, ht⟩)
        have HL8 := Lib.hid hpm; have PV8 := Lib.hid hv; have FT8 := Lib.hid hf; have HD8 := Lib.hid (HD6.out.turn ht); have BL8 := Lib.hid (HD8.out.bel); have RR8 := Lib.hid hr
        clear hv hf hr hpm ht
        obtain rfl : r8 = true := (by cases r8 with | true => rfl | false => exact absurd (RR8.out rfl) (fun h => h.elim NM.out (fun h2 => by rw [PV8.out.up] at h2; cases h2)))
        have X0 := HD8.out.k.has.cell 0; have X1 := HD8.out.k.has.cell 1; have Y0 := HD8.out.m.has.cell 0; have Y1 := HD8.out.m.has.cell 1
        have HC8 : w8.cell? ⟨xk, 0, none⟩ = some (.int .i64 X.q) ∧ w8.cell? ⟨xk, 1, none⟩ = some (.map (some mk)) ∧ w8.cell? ⟨xm, 0, none⟩ = some (.int .i64 qm) ∧ w8.cell? ⟨xm, 1, none⟩ = some (.map (some mm)) := ⟨HD8.out.k.has.cell 0, HD8.out.k.has.cell 1, HD8.out.m.has.cell 0, HD8.out.m.has.cell 1⟩
        obtain ⟨x08, x18, y08, y18⟩ := HC8
        clear X0 X1 Y0 Y1
        (try go_wp2_with fail)
        refine hK.out _ _ ?_ (fun hHeld => ?_)
        · exact ⟨x08, x18, y08, y18⟩
        clear hK K
        try simp only [Act.put, List.getElem_toArray, List.getElem_cons_succ, List.getElem_cons_zero, List.setIfInBounds_toArray, List.set_cons_zero, List.set_cons_succ]
        refine wpAnyH_take (i := 16) (oi := _) (v := ?_) rfl (by kernel_rfl) (by kernel_rfl) (by kernel_rfl) (fun _ _ _ h => h) (Or.inl ⟨by kernel_rfl, ?_⟩) (by assumption) ?_
        rotate_left
        any_goals (intro w hSw; (try dsimp only at hSw); go_simp; first | done | (with_reducible rfl))
        try simp only [Act.put, List.getElem_toArray, List.getElem_cons_succ, List.getElem_cons_zero, List.setIfInBounds_toArray, List.set_cons_zero, List.set_cons_succ]
        refine wpAnyH_take (i := 17) (oi := _) (v := ?_) rfl (by kernel_rfl) (by kernel_rfl) (by kernel_rfl) (fun _ _ _ h => h) (Or.inl ⟨by kernel_rfl, ?_⟩) (by assumption) ?_
        rotate_left
        any_goals (intro w hSw; (try dsimp only at hSw); go_simp; first | done | (with_reducible rfl))
        try simp only [Act.put, List.getElem_toArray, List.getElem_cons_succ, List.getElem_cons_zero, List.setIfInBounds_toArray, List.set_cons_zero, List.set_cons_succ]
        refine wpAnyH_take (i := 18) (oi := _) (v := undef) rfl (by kernel_rfl) (by kernel_rfl) (by kernel_rfl) (fun _ _ _ h => h) (Or.inr ⟨by kernel_rfl, rfl⟩) (by assumption) ?_
        try simp only [Act.put, List.getElem_toArray, List.getElem_cons_succ, List.getElem_cons_zero, List.setIfInBounds_toArray, List.set_cons_zero, List.set_cons_succ]
        refine wpAnyH_take (i := 19) (oi := _) (v := undef) rfl (by kernel_rfl) (by kernel_rfl) (by kernel_rfl) (fun _ _ _ h => h) (Or.inr ⟨by kernel_rfl, rfl⟩) (by assumption) ?_
        try simp only [Act.put, List.getElem_toArray, List.getElem_cons_succ, List.getElem_cons_zero, List.setIfInBounds_toArray, List.set_cons_zero, List.set_cons_succ]
        refine wpAnyH_take (i := 20) (oi := _) (v := undef) rfl (by kernel_rfl) (by kernel_rfl) (by kernel_rfl) (fun _ _ _ h => h) (Or.inr ⟨by kernel_rfl, rfl⟩) (by assumption) ?_
        try simp only [Act.put, List.getElem_toArray, List.getElem_cons_succ, List.getElem_cons_zero, List.setIfInBounds_toArray, List.set_cons_zero, List.set_cons_succ]
        refine wpAnyH_take (i := 21) (oi := _) (v := undef) rfl (by kernel_rfl) (by kernel_rfl) (by kernel_rfl) (fun _ _ _ h => h) (Or.inr ⟨by kernel_rfl, rfl⟩) (by assumption) ?_
        try simp only [Act.put, List.getElem_toArray, List.getElem_cons_succ, List.getElem_cons_zero, List.setIfInBounds_toArray, List.set_cons_zero, List.set_cons_succ]
        refine wpAnyH_take (i := 22) (oi := _) (v := undef) rfl (by kernel_rfl) (by kernel_rfl) (by kernel_rfl) (fun _ _ _ h => h) (Or.inr ⟨by kernel_rfl, rfl⟩) (by assumption) ?_
        try simp only [Act.put, List.getElem_toArray, List.getElem_cons_succ, List.getElem_cons_zero, List.setIfInBounds_toArray, List.set_cons_zero, List.set_cons_succ]
        refine wpAnyH_take (i := 23) (oi := _) (v := undef) rfl (by kernel_rfl) (by kernel_rfl) (by kernel_rfl) (fun _ _ _ h => h) (Or.inr ⟨by kernel_rfl, rfl⟩) (by assumption) ?_
        try simp only [Act.put, List.getElem_toArray, List.getElem_cons_succ, List.getElem_cons_zero, List.setIfInBounds_toArray, List.set_cons_zero, List.set_cons_succ]
        refine wpAnyH_take (i := 24) (oi := _) (v := undef) rfl (by kernel_rfl) (by kernel_rfl) (by kernel_rfl) (fun _ _ _ h => h) (Or.inr ⟨by kernel_rfl, rfl⟩) (by assumption) ?_
        try simp only [Act.put, List.getElem_toArray, List.getElem_cons_succ, List.getElem_cons_zero, List.setIfInBounds_toArray, List.set_cons_zero, List.set_cons_succ]
        refine wpAnyH_take (i := 25) (oi := _) (v := undef) rfl (by kernel_rfl) (by kernel_rfl) (by kernel_rfl) (fun _ _ _ h => h) (Or.inr ⟨by kernel_rfl, rfl⟩) (by assumption) ?_
        try simp only [Act.put, List.getElem_toArray, List.getElem_cons_succ, List.getElem_cons_zero, List.setIfInBounds_toArray, List.set_cons_zero, List.set_cons_succ]
        refine wpAnyH_take (i := 26) (oi := _) (v := undef) rfl (by kernel_rfl) (by kernel_rfl) (by kernel_rfl) (fun _ _ _ h => h) (Or.inr ⟨by kernel_rfl, rfl⟩) (by assumption) ?_
        try simp only [Act.put, List.getElem_toArray, List.getElem_cons_succ, List.getElem_cons_zero, List.setIfInBounds_toArray, List.set_cons_zero, List.set_cons_succ]
        refine wpAnyH_take (i := 27) (oi := _) (v := undef) rfl (by kernel_rfl) (by kernel_rfl) (by kernel_rfl) (fun _ _ _ h => h) (Or.inr ⟨by kernel_rfl, rfl⟩) (by assumption) ?_
        try simp only [Act.put, List.getElem_toArray, List.getElem_cons_succ, List.getElem_cons_zero, List.setIfInBounds_toArray, List.set_cons_zero, List.set_cons_succ]
        refine wpAnyH_take (i := 28) (oi := _) (v := ?_) rfl (by kernel_rfl) (by kernel_rfl) (by kernel_rfl) (fun _ _ _ h => h) (Or.inl ⟨by kernel_rfl, ?_⟩) (by assumption) ?_
        rotate_left
        any_goals (intro w hSw; (try dsimp only at hSw); go_simp; first | done | (with_reducible rfl))
        try simp only [Act.put, List.getElem_toArray, List.getElem_cons_succ, List.getElem_cons_zero, List.setIfInBounds_toArray, List.set_cons_zero, List.set_cons_succ]
        refine wpAnyH_take (i := 29) (oi := _) (v := ?_) rfl (by kernel_rfl) (by kernel_rfl) (by kernel_rfl) (fun _ _ _ h => h) (Or.inl ⟨by kernel_rfl, ?_⟩) (by assumption) ?_
        rotate_left
        any_goals (intro w hSw; (try dsimp only at hSw); go_simp; first | done | (with_reducible rfl))
        try simp only [Act.put, List.getElem_toArray, List.getElem_cons_succ, List.getElem_cons_zero, List.setIfInBounds_toArray, List.set_cons_zero, List.set_cons_succ]
        refine wpAnyH_take (i := 30) (oi := _) (v := ?_) rfl (by kernel_rfl) (by kernel_rfl) (by kernel_rfl) (fun _ _ _ h => h) (Or.inl ⟨by kernel_rfl, ?_⟩) (by assumption) ?_
        rotate_left
        any_goals (intro w hSw; (try dsimp only at hSw); go_simp; first | done | (with_reducible rfl))
        try simp only [Act.put, List.getElem_toArray, List.getElem_cons_succ, List.getElem_cons_zero, List.setIfInBounds_toArray, List.set_cons_zero, List.set_cons_succ]
        refine wpAnyH_done (by kernel_rfl) ?_ _
        go_wp2_with fail
        go_ret
        exact ⟨rfl, BL8.out⟩
    · as_aux_lemma =>
        rw [← hq] at HD6
        rw [hT] at NM
        clear hq hT XC XG H6
        by_cases hqb : X.q = B.q
        · rw [← hqb] at HD6
          clear hqb
          have HC6 : w6.drew.cell? ⟨xk, 0, none⟩ = some (.int .i64 X.q) ∧ w6.drew.cell? ⟨xk, 1, none⟩ = some (.map (some mk)) ∧ w6.drew.cell? ⟨xm, 0, none⟩ = some (.int .i64 X.q) ∧ w6.drew.cell? ⟨xm, 1, none⟩ = some (.map (some mm)) := ⟨HD6.out.k.has.cell 0, HD6.out.k.has.cell 1, HD6.out.m.has.cell 0, HD6.out.m.has.cell 1⟩
          obtain ⟨x06, x16, y06, y16⟩ := HC6
          refine wp_region_held_drew (S := fun w' => w'.cell? ⟨xk, 0, none⟩ = some (.int .i64 X.q) ∧ w'.cell? ⟨xk, 1, none⟩ = some (.map (some mk)) ∧ w'.cell? ⟨xm, 0, none⟩ = some (.int .i64 X.q) ∧ w'.cell? ⟨xm, 1, none⟩ = some (.map (some mm))) (by kernel_rfl) ?_ (fun hHeld => ?_)
          · exact ⟨x06, x16, y06, y16⟩
          generalize w6.drew = u at *
          refine wpAnyH_take (i := 0) (oi := _) (v := ?_) rfl (by kernel_rfl) (by kernel_rfl) (by kernel_rfl) (fun _ _ _ h => h) (Or.inl ⟨by kernel_rfl, ?_⟩) (by assumption) ?_
          rotate_left
          any_goals (intro w hSw; (try dsimp only at hSw); go_simp; first | done | (with_reducible rfl))
          try simp only [Act.put, List.getElem_toArray, List.getElem_cons_succ, List.getElem_cons_zero, List.setIfInBounds_toArray, List.set_cons_zero, List.set_cons_succ]
          refine wpAnyH_take (i := 1) (oi := _) (v := ?_) rfl (by kernel_rfl) (by kernel_rfl) (by kernel_rfl) (fun _ _ _ h => h) (Or.inl ⟨by kernel_rfl, ?_⟩) (by assumption) ?_
          rotate_left
          any_goals (intro w hSw; (try dsimp only at hSw); go_simp; first | done | (with_reducible rfl))
          try simp only [Act.put, List.getElem_toArray, List.getElem_cons_succ, List.getElem_cons_zero, List.setIfInBounds_toArray, List.set_cons_zero, List.set_cons_succ]
          refine wpAnyH_take (i := 2) (oi := _) (v := ?_) rfl (by kernel_rfl) (by kernel_rfl) (by kernel_rfl) (fun _ _ _ h => h) (Or.inl ⟨by kernel_rfl, ?_⟩) (by assumption) ?_
          rotate_left
          any_goals (intro w hSw; (try dsimp only at hSw); go_simp; first | done | (with_reducible rfl))
          try simp only [Act.put, List.getElem_toArray, List.getElem_cons_succ, List.getElem_cons_zero, List.setIfInBounds_toArray, List.set_cons_zero, List.set_cons_succ]
          refine wpAnyH_take (i := 3) (oi := _) (v := ?_) rfl (by kernel_rfl) (by kernel_rfl) (by kernel_rfl) (fun _ _ _ h => h) (Or.inl ⟨by kernel_rfl, ?_⟩) (by assumption) ?_
          rotate_left
          any_goals (intro w hSw; (try dsimp only at hSw); go_simp; first | done | (with_reducible rfl))
          try simp only [Act.put, List.getElem_toArray, List.getElem_cons_succ, List.getElem_cons_zero, List.setIfInBounds_toArray, List.set_cons_zero, List.set_cons_succ]
          refine wpAnyH_take (i := 4) (oi := _) (v := ?_) rfl (by kernel_rfl) (by kernel_rfl) (by kernel_rfl) (fun _ _ _ h => h) (Or.inl ⟨by kernel_rfl, ?_⟩) (by assumption) ?_
          rotate_left
          any_goals (intro w hSw; (try dsimp only at hSw); go_simp; first | done | (with_reducible rfl))
          try simp only [Act.put, List.getElem_toArray, List.getElem_cons_succ, List.getElem_cons_zero, List.setIfInBounds_toArray, List.set_cons_zero, List.set_cons_succ]
          refine wpAnyH_take (i := 5) (oi := _) (v := ?_) rfl (by kernel_rfl) (by kernel_rfl) (by kernel_rfl) (fun _ _ _ h => h) (Or.inl ⟨by kernel_rfl, ?_⟩) (by assumption) ?_
          rotate_left
          any_goals (intro w hSw; (try dsimp only at hSw); go_simp; first | done | (with_reducible rfl))
          try simp only [Act.put, List.getElem_toArray, List.getElem_cons_succ, List.getElem_cons_zero, List.setIfInBounds_toArray, List.set_cons_zero, List.set_cons_succ]
          refine wpAnyH_take (i := 6) (oi := _) (v := ?_) rfl (by kernel_rfl) (by kernel_rfl) (by kernel_rfl) (fun _ _ _ h => h) (Or.inl ⟨by kernel_rfl, ?_⟩) (by assumption) ?_
          rotate_left
          any_goals (intro w hSw; (try dsimp only at hSw); go_simp; first | done | (with_reducible rfl))
          try simp only [Act.put, List.getElem_toArray, List.getElem_cons_succ, List.getElem_cons_zero, List.setIfInBounds_toArray, List.set_cons_zero, List.set_cons_succ]
          refine wpAnyH_take (i := 7) (oi := _) (v := ?_) rfl (by kernel_rfl) (by kernel_rfl) (by kernel_rfl) (fun _ _ _ h => h) (Or.inl ⟨by kernel_rfl, ?_⟩) (by assumption) ?_
          rotate_left
          any_goals (intro w hSw; (try dsimp only at hSw); go_simp; first | done | (with_reducible rfl))
          try simp only [Act.put, List.getElem_toArray, List.getElem_cons_succ, List.getElem_cons_zero, List.setIfInBounds_toArray, List.set_cons_zero, List.set_cons_succ]
          refine wpAnyH_take (i := 9) (oi := _) (v := ?_) rfl (by kernel_rfl) (by kernel_rfl) (by kernel_rfl) (fun _ _ _ h => h) (Or.inl ⟨by kernel_rfl, ?_⟩) (by assumption) ?_
          rotate_left
          any_goals (intro w hSw; (try dsimp only at hSw); go_simp; first | done | (with_reducible rfl))
          try simp only [Act.put, List.getElem_toArray, List.getElem_cons_succ, List.getElem_cons_zero, List.setIfInBounds_toArray, List.set_cons_zero, List.set_cons_succ]
          refine wpAnyH_take (i := 10) (oi := _) (v := ?_) rfl (by kernel_rfl) (by kernel_rfl) (by kernel_rfl) (fun _ _ _ h => h) (Or.inl ⟨by kernel_rfl, ?_⟩) (by assumption) ?_
          rotate_left
          any_goals (intro w hSw; (try dsimp only at hSw); go_simp; first | done | (with_reducible rfl))
          try simp only [Act.put, List.getElem_toArray, List.getElem_cons_succ, List.getElem_cons_zero, List.setIfInBounds_toArray, List.set_cons_zero, List.set_cons_succ]
          refine wpAnyH_ready (rs := [8]) (by kernel_rfl) (by simp) ?_
          refine AllReadyH.cons (o := _) rfl (fun K hK => ?_) AllReadyH.nil
          go_simp
          (go_at_call 48; refine (PGS.out _ _ _ _ _ _ HL6.out PV6.out).mono ?_; rintro e w7 ⟨rfl, rfl⟩)
          (try go_wp2_with fail)
          refine hK.out _ _ ?_ (fun hHeld => ?_)
          · exact ⟨x06, x16, y06, y16⟩
          clear hK K
          try simp only [Act.put, List.getElem_toArray, List.getElem_cons_succ, List.getElem_cons_zero, List.setIfInBounds_toArray, List.set_cons_zero, List.set_cons_succ]
          refine wpAnyH_take (i := 11) (oi := _) (v := ?_) rfl (by kernel_rfl) (by kernel_rfl) (by kernel_rfl) (fun _ _ _ h => h) (Or.inl ⟨by kernel_rfl, ?_⟩) (by assumption) ?_
          rotate_left
          any_goals (intro w hSw; (try dsimp only at hSw); go_simp; first | done | (with_reducible rfl))
          try simp only [Act.put, List.getElem_toArray, List.getElem_cons_succ, List.getElem_cons_zero, List.setIfInBounds_toArray, List.set_cons_zero, List.set_cons_succ]
          refine wpAnyH_take (i := 12) (oi := _) (v := ?_) rfl (by kernel_rfl) (by kernel_rfl) (by kernel_rfl) (fun _ _ _ h => h) (Or.inl ⟨by kernel_rfl, ?_⟩) (by assumption) ?_
          rotate_left
          any_goals (intro w hSw; (try dsimp only at hSw); go_simp; first | done | (with_reducible rfl))
          try simp only [Act.put, List.getElem_toArray, List.getElem_cons_succ, List.getElem_cons_zero, List.setIfInBounds_toArray, List.set_cons_zero, List.set_cons_succ]
          refine wpAnyH_take (i := 13) (oi := _) (v := ?_) rfl (by kernel_rfl) (by kernel_rfl) (by kernel_rfl) (fun _ _ _ h => h) (Or.inl ⟨by kernel_rfl, ?_⟩) (by assumption) ?_
          rotate_left
          any_goals (intro w hSw; (try dsimp only at hSw); go_simp; first | done | (with_reducible rfl))
          try simp only [Act.put, List.getElem_toArray, List.getElem_cons_succ, List.getElem_cons_zero, List.setIfInBounds_toArray, List.set_cons_zero, List.set_cons_succ]
          refine wpAnyH_take (i := 14) (oi := _) (v := ?_) rfl (by kernel_rfl) (by kernel_rfl) (by kernel_rfl) (fun _ _ _ h => h) (Or.inl ⟨by kernel_rfl, ?_⟩) (by assumption) ?_
          rotate_left
          any_goals (intro w hSw; (try dsimp only at hSw); go_simp; first | done | (with_reducible rfl))
          try simp only [Act.put, List.getElem_toArray, List.getElem_cons_succ, List.getElem_cons_zero, List.setIfInBounds_toArray, List.set_cons_zero, List.set_cons_succ]
          refine wpAnyH_ready (rs := [15]) (by kernel_rfl) (by simp) ?_
          refine AllReadyH.cons (o := _) rfl (fun K hK => ?_) AllReadyH.nil
          go_simp
          (go_at_call 47; refine (RDS.out _ _ _ _ _ _ HL6.out PV6.out 70000 mk TK (FT6.out.less (by have := XQ.out; omega)) HD6.out.k.map HD6.out.k.offm).mono ?_; rintro en w8 ⟨r8, P8, b8, n78, n88, A8, rfl, hv, hf, hr, hpm, ht⟩)
          have HL8 := Lib.hid hpm; have PV8 := Lib.hid hv; have FT8 := Lib.hid hf; have HD8 := Lib.hid (HD6.out.turn ht); have BL8 := Lib.hid (HD8.out.bel); have RR8 := Lib.hid hr
          clear hv hf hr hpm ht
          have X0 := HD8.out.k.has.cell 0; have X1 := HD8.out.k.has.cell 1; have Y0 := HD8.out.m.has.cell 0; have Y1 := HD8.out.m.has.cell 1
          have HC8 : w8.cell? ⟨xk, 0, none⟩ = some (.int .i64 X.q) ∧ w8.cell? ⟨xk, 1, none⟩ = some (.map (some mk)) ∧ w8.cell? ⟨xm, 0, none⟩ = some (.int .i64 X.q) ∧ w8.cell? ⟨xm, 1, none⟩ = some (.map (some mm)) := ⟨HD8.out.k.has.cell 0, HD8.out.k.has.cell 1, HD8.out.m.has.cell 0, HD8.out.m.has.cell 1⟩
          obtain ⟨x08, x18, y08, y18⟩ := HC8
          clear X0 X1 Y0 Y1
          cases r8
          · (try go_wp2_with fail)
            refine hK.out _ _ ?_ (fun hHeld => ?_)
            · exact ⟨x08, x18, y08, y18⟩
            clear hK K
            try simp only [Act.put, List.getElem_toArray, List.getElem_cons_succ, List.getElem_cons_zero, List.setIfInBounds_toArray, List.set_cons_zero, List.set_cons_succ]
            refine wpAnyH_take (i := 16) (oi := _) (v := ?_) rfl (by kernel_rfl) (by kernel_rfl) (by kernel_rfl) (fun _ _ _ h => h) (Or.inl ⟨by kernel_rfl, ?_⟩) (by assumption) ?_
            rotate_left
            any_goals (intro w hSw; (try dsimp only at hSw); go_simp; first | done | (with_reducible rfl))
            try simp only [Act.put, List.getElem_toArray, List.getElem_cons_succ, List.getElem_cons_zero, List.setIfInBounds_toArray, List.set_cons_zero, List.set_cons_succ]
            refine wpAnyH_take (i := 17) (oi := _) (v := ?_) rfl (by kernel_rfl) (by kernel_rfl) (by kernel_rfl) (fun _ _ _ h => h) (Or.inl ⟨by kernel_rfl, ?_⟩) (by assumption) ?_
            rotate_left
            any_goals (intro w hSw; (try dsimp only at hSw); go_simp; first | done | (with_reducible rfl))
            try simp only [Act.put, List.getElem_toArray, List.getElem_cons_succ, List.getElem_cons_zero, List.setIfInBounds_toArray, List.set_cons_zero, List.set_cons_succ]
            refine wpAnyH_take (i := 18) (oi := _) (v := ?_) rfl (by kernel_rfl) (by kernel_rfl) (by kernel_rfl) (fun _ _ _ h => h) (Or.inl ⟨by kernel_rfl, ?_⟩) (by assumption) ?_
            rotate_left
            any_goals (intro w hSw; (try dsimp only at hSw); go_simp; first | done | (with_reducible rfl))
            try simp only [Act.put, List.getElem_toArray, List.getElem_cons_succ, List.getElem_cons_zero, List.setIfInBounds_toArray, List.set_cons_zero, List.set_cons_succ]
            refine wpAnyH_take (i := 20) (oi := _) (v := ?_) rfl (by kernel_rfl) (by kernel_rfl) (by kernel_rfl) (fun _ _ _ h => h) (Or.inl ⟨by kernel_rfl, ?_⟩) (by assumption) ?_
            rotate_left
            any_goals (intro w hSw; (try dsimp only at hSw); go_simp; first | done | (with_reducible rfl))
            try simp only [Act.put, List.getElem_toArray, List.getElem_cons_succ, List.getElem_cons_zero, List.setIfInBounds_toArray, List.set_cons_zero, List.set_cons_succ]
            refine wpAnyH_take (i := 21) (oi := _) (v := ?_) rfl (by kernel_rfl) (by kernel_rfl) (by kernel_rfl) (fun _ _ _ h => h) (Or.inl ⟨by kernel_rfl, ?_⟩) (by assumption) ?_
            rotate_left
            any_goals (intro w hSw; (try dsimp only at hSw); go_simp; first | done | (with_reducible rfl))
            try simp only [Act.put, List.getElem_toArray, List.getElem_cons_succ, List.getElem_cons_zero, List.setIfInBounds_toArray, List.set_cons_zero, List.set_cons_succ]
            refine wpAnyH_ready (rs := [19]) (by kernel_rfl) (by simp) ?_
            refine AllReadyH.cons (o := _) rfl (fun K hK => ?_) AllReadyH.nil
            go_simp
            (go_at_call 48; refine (PGS.out _ _ _ _ _ _ HL8.out PV8.out).mono ?_; rintro e w7 ⟨rfl, rfl⟩)
            (try go_wp2_with fail)
            refine hK.out _ _ ?_ (fun hHeld => ?_)
            · exact ⟨x08, x18, y08, y18⟩
            clear hK K
            try simp only [Act.put, List.getElem_toArray, List.getElem_cons_succ, List.getElem_cons_zero, List.setIfInBounds_toArray, List.set_cons_zero, List.set_cons_succ]
            refine wpAnyH_take (i := 22) (oi := _) (v := ?_) rfl (by kernel_rfl) (by kernel_rfl) (by kernel_rfl) (fun _ _ _ h => h) (Or.inl ⟨by kernel_rfl, ?_⟩) (by assumption) ?_
            rotate_left
            any_goals (intro w hSw; (try dsimp only at hSw); go_simp; first | done | (with_reducible rfl))
            try simp only [Act.put, List.getElem_toArray, List.getElem_cons_succ, List.getElem_cons_zero, List.setIfInBounds_toArray, List.set_cons_zero, List.set_cons_succ]
            refine wpAnyH_take (i := 23) (oi := _) (v := ?_) rfl (by kernel_rfl) (by kernel_rfl) (by kernel_rfl) (fun _ _ _ h => h) (Or.inl ⟨by kernel_rfl, ?_⟩) (by assumption) ?_
            rotate_left
            any_goals (intro w hSw; (try dsimp only at hSw); go_simp; first | done | (with_reducible rfl))
            try simp only [Act.put, List.getElem_toArray, List.getElem_cons_succ, List.getElem_cons_zero, List.setIfInBounds_toArray, List.set_cons_zero, List.set_cons_succ]
            refine wpAnyH_take (i := 24) (oi := _) (v := ?_) rfl (by kernel_rfl) (by kernel_rfl) (by kernel_rfl) (fun _ _ _ h => h) (Or.inl ⟨by kernel_rfl, ?_⟩) (by assumption) ?_
            rotate_left
            any_goals (intro w hSw; (try dsimp only at hSw); go_simp; first | done | (with_reducible rfl))
            try simp only [Act.put, List.getElem_toArray, List.getElem_cons_succ, List.getElem_cons_zero, List.setIfInBounds_toArray, List.set_cons_zero, List.set_cons_succ]
            refine wpAnyH_take (i := 25) (oi := _) (v := ?_) rfl (by kernel_rfl) (by kernel_rfl) (by kernel_rfl) (fun _ _ _ h => h) (Or.inl ⟨by kernel_rfl, ?_⟩) (by assumption) ?_
            rotate_left
            any_goals (intro w hSw; (try dsimp only at hSw); go_simp; first | done | (with_reducible rfl))
            try simp only [Act.put, List.getElem_toArray, List.getElem_cons_succ, List.getElem_cons_zero, List.setIfInBounds_toArray, List.set_cons_zero, List.set_cons_succ]
            refine wpAnyH_ready (rs := [26]) (by kernel_rfl) (by simp) ?_
            refine AllReadyH.cons (o := _) rfl (fun K hK => ?_) AllReadyH.nil
            go_simp
            (go_at_call 47; refine (RDS.out _ _ _ _ _ _ HL8.out PV8.out 0 mm TM (FT8.out.less (by have := XQ.out; omega)) HD8.out.m.map HD8.out.m.offm).mono ?_; rintro en w9 ⟨r9, P9, b9, n79, n89, A9, rfl, hv, hf, hr, hpm, ht⟩)
            have HL9 := Lib.hid hpm; have PV9 := Lib.hid hv; have FT9 := Lib.hid hf; have HD9 := Lib.hid (HD8.out.turn ht); have BL9 := Lib.hid (HD9.out.bel); have RR9 := Lib.hid hr
            clear hv hf hr hpm ht
            obtain rfl : r9 = true := (by cases r9 with | true => rfl | false => exact absurd (RR9.out rfl) (fun h => h.elim NM.out (fun h2 => by rw [PV9.out.up] at h2; cases h2)))
            have X0 := HD9.out.k.has.cell 0; have X1 := HD9.out.k.has.cell 1; have Y0 := HD9.out.m.has.cell 0; have Y1 := HD9.out.m.has.cell 1
            have HC9 : w9.cell? ⟨xk, 0, none⟩ = some (.int .i64 X.q) ∧ w9.cell? ⟨xk, 1, none⟩ = some (.map (some mk)) ∧ w9.cell? ⟨xm, 0, none⟩ = some (.int .i64 X.q) ∧ w9.cell? ⟨xm, 1, none⟩ = some (.map (some mm)) := ⟨HD9.out.k.has.cell 0, HD9.out.k.has.cell 1, HD9.out.m.has.cell 0, HD9.out.m.has.cell 1⟩
            obtain ⟨x09, x19, y09, y19⟩ := HC9
            clear X0 X1 Y0 Y1
            (try go_wp2_with fail)
            refine hK.out _ _ ?_ (fun hHeld => ?_)
            · exact ⟨x09, x19, y09, y19⟩
            clear hK K
            try simp only [Act.put, List.getElem_toArray, List.getElem_cons_succ, List.getElem_cons_zero, List.setIfInBounds_toArray, List.set_cons_zero, List.set_cons_succ]
            refine wpAnyH_take (i := 27) (oi := _) (v := ?_) rfl (by kernel_rfl) (by kernel_rfl) (by kernel_rfl) (fun _ _ _ h => h) (Or.inl ⟨by kernel_rfl, ?_⟩) (by assumption) ?_
            rotate_left
            any_goals (intro w hSw; (try dsimp only at hSw); go_simp; first | done | (with_reducible rfl))
            try simp only [Act.put, List.getElem_toArray, List.getElem_cons_succ, List.getElem_cons_zero, List.setIfInBounds_toArray, List.set_cons_zero, List.set_cons_succ]
            refine wpAnyH_take (i := 28) (oi := _) (v := ?_) rfl (by kernel_rfl) (by kernel_rfl) (by kernel_rfl) (fun _ _ _ h => h) (Or.inl ⟨by kernel_rfl, ?_⟩) (by assumption) ?_
            rotate_left
            any_goals (intro w hSw; (try dsimp only at hSw); go_simp; first | done | (with_reducible rfl))
            try simp only [Act.put, List.getElem_toArray, List.getElem_cons_succ, List.getElem_cons_zero, List.setIfInBounds_toArray, List.set_cons_zero, List.set_cons_succ]
            refine wpAnyH_take (i := 29) (oi := _) (v := ?_) rfl (by kernel_rfl) (by kernel_rfl) (by kernel_rfl) (fun _ _ _ h => h) (Or.inl ⟨by kernel_rfl, ?_⟩) (by assumption) ?_
            rotate_left
            any_goals (intro w hSw; (try dsimp only at hSw); go_simp; first | done | (with_reducible rfl))
            try simp only [Act.put, List.getElem_toArray, List.getElem_cons_succ, List.getElem_cons_zero, List.setIfInBounds_toArray, List.set_cons_zero, List.set_cons_succ]
            refine wpAnyH_take (i := 30) (oi := _) (v := ?_) rfl (by kernel_rfl) (by kernel_rfl) (by kernel_rfl) (fun _ _ _ h => h) (Or.inl ⟨by kernel_rfl, ?_⟩) (by assumption) ?_
            rotate_left
            any_goals (intro w hSw; (try dsimp only at hSw); go_simp; first | done | (with_reducible rfl))
            try simp only [Act.put, List.getElem_toArray, List.getElem_cons_succ, List.getElem_cons_zero, List.setIfInBounds_toArray, List.set_cons_zero, List.set_cons_succ]
            refine wpAnyH_done (by kernel_rfl) ?_ _
            go_wp2_with fail
            go_ret
            exact ⟨rfl, BL9.out⟩
          · (try go_wp2_with fail)
            refine hK.out _ _ ?_ (fun hHeld => ?_)
            · exact ⟨x08, x18, y08, y18⟩
            clear hK K
            try simp only [Act.put, List.getElem_toArray, List.getElem_cons_succ, List.getElem_cons_zero, List.setIfInBounds_toArray, List.set_cons_zero, List.set_cons_succ]
            refine wpAnyH_take (i := 16) (oi := _) (v := ?_) rfl (by kernel_rfl) (by kernel_rfl) (by kernel_rfl) (fun _ _ _ h => h) (Or.inl ⟨by kernel_rfl, ?_⟩) (by assumption) ?_
            rotate_left
            any_goals (intro w hSw; (try dsimp only at hSw); go_simp; first | done | (with_reducible rfl))
            try simp only [Act.put, List.getElem_toArray, List.getElem_cons_succ, List.getElem_cons_zero, List.setIfInBounds_toArray, List.set_cons_zero, List.set_cons_succ]
            refine wpAnyH_take (i := 17) (oi := _) (v := ?_) rfl (by kernel_rfl) (by kernel_rfl) (by kernel_rfl) (fun _ _ _ h => h) (Or.inl ⟨by kernel_rfl, ?_⟩) (by assumption) ?_
            rotate_left
            any_goals (intro w hSw; (try dsimp only at hSw); go_simp; first | done | (with_reducible rfl))
            try simp only [Act.put, List.getElem_toArray, List.getElem_cons_succ, List.getElem_cons_zero, List.setIfInBounds_toArray, List.set_cons_zero, List.set_cons_succ]
            refine wpAnyH_take (i := 18) (oi := _) (v := undef) rfl (by kernel_rfl) (by kernel_rfl) (by kernel_rfl) (fun _ _ _ h => h) (Or.inr ⟨by kernel_rfl, rfl⟩) (by assumption) ?_
            try simp only [Act.put, List.getElem_toArray, List.getElem_cons_succ, List.getElem_cons_zero, List.setIfInBounds_toArray, List.set_cons_zero, List.set_cons_succ]
            refine wpAnyH_take (i := 19) (oi := _) (v := undef) rfl (by kernel_rfl) (by kernel_rfl) (by kernel_rfl) (fun _ _ _ h => h) (Or.inr ⟨by kernel_rfl, rfl⟩) (by assumption) ?_
            try simp only [Act.put, List.getElem_toArray, List.getElem_cons_succ, List.getElem_cons_zero, List.setIfInBounds_toArray, List.set_cons_zero, List.set_cons_succ]
            refine wpAnyH_take (i := 20) (oi := _) (v := undef) rfl (by kernel_rfl) (by kernel_rfl) (by kernel_rfl) (fun _ _ _ h => h) (Or.inr ⟨by kernel_rfl, rfl⟩) (by assumption) ?_
            try simp only [Act.put, List.getElem_toArray, List.getElem_cons_succ, List.getElem_cons_zero, List.setIfInBounds_toArray, List.set_cons_zero, List.set_cons_succ]
            refine wpAnyH_take (i := 21) (oi := _) (v := undef) rfl (by kernel_rfl) (by kernel_rfl) (by kernel_rfl) (fun _ _ _ h => h) (Or.inr ⟨by kernel_rfl, rfl⟩) (by assumption) ?_
            try simp only [Act.put, List.getElem_toArray, List.getElem_cons_succ, List.getElem_cons_zero, List.setIfInBounds_toArray, List.set_cons_zero, List.set_cons_succ]
            refine wpAnyH_take (i := 22) (oi := _) (v := undef) rfl (by kernel_rfl) (by kernel_rfl) (by kernel_rfl) (fun _ _ _ h => h) (Or.inr ⟨by kernel_rfl, rfl⟩) (by assumption) ?_
            try simp only [Act.put, List.getElem_toArray, List.getElem_cons_succ, List.getElem_cons_zero, List.setIfInBounds_toArray, List.set_cons_zero, List.set_cons_succ]
            refine wpAnyH_take (i := 23) (oi := _) (v := undef) rfl (by kernel_rfl) (by kernel_rfl) (by kernel_rfl) (fun _ _ _ h => h) (Or.inr ⟨by kernel_rfl, rfl⟩) (by assumption) ?_
            try simp only [Act.put, List.getElem_toArray, List.getElem_cons_succ, List.getElem_cons_zero, List.setIfInBounds_toArray, List.set_cons_zero, List.set_cons_succ]
            refine wpAnyH_take (i := 24) (oi := _) (v := undef) rfl (by kernel_rfl) (by kernel_rfl) (by kernel_rfl) (fun _ _ _ h => h) (Or.inr ⟨by kernel_rfl, rfl⟩) (by assumption) ?_
            try simp only [Act.put, List.getElem_toArray, List.getElem_cons_succ, List.getElem_cons_zero, List.setIfInBounds_toArray, List.set_cons_zero, List.set_cons_succ]
            refine wpAnyH_take (i := 25) (oi := _) (v := undef) rfl (by kernel_rfl) (by kernel_rfl) (by kernel_rfl) (fun _ _ _ h => h) (Or.inr ⟨by kernel_rfl, rfl⟩) (by assumption) ?_
            try simp only [Act.put, List.getElem_toArray, List.getElem_cons_succ, List.getElem_cons_zero, List.setIfInBounds_toArray, List.set_cons_zero, List.set_cons_succ]
            refine wpAnyH_take (i := 26) (oi := _) (v := undef) rfl (by kernel_rfl) (by kernel_rfl) (by kernel_rfl) (fun _ _ _ h => h) (Or.inr ⟨by kernel_rfl, rfl⟩) (by assumption) ?_
            try simp only [Act.put, List.getElem_toArray, List.getElem_cons_succ, List.getElem_cons_zero, List.setIfInBounds_toArray, List.set_cons_zero, List.set_cons_succ]
            refine wpAnyH_take (i := 27) (oi := _) (v := undef) rfl (by kernel_rfl) (by kernel_rfl) (by kernel_rfl) (fun _ _ _ h => h) (Or.inr ⟨by kernel_rfl, rfl⟩) (by assumption) ?_
            try simp only [Act.put, List.getElem_toArray, List.getElem_cons_succ, List.getElem_cons_zero, List.setIfInBounds_toArray, List.set_cons_zero, List.set_cons_succ]
            refine wpAnyH_take (i := 28) (oi := _) (v := ?_) rfl (by kernel_rfl) (by kernel_rfl) (by kernel_rfl) (fun _ _ _ h => h) (Or.inl ⟨by kernel_rfl, ?_⟩) (by assumption) ?_
            rotate_left
            any_goals (intro w hSw; (try dsimp only at hSw); go_simp; first | done | (with_reducible rfl))
            try simp only [Act.put, List.getElem_toArray, List.getElem_cons_succ, List.getElem_cons_zero, List.setIfInBounds_toArray, List.set_cons_zero, List.set_cons_succ]
            refine wpAnyH_take (i := 29) (oi := _) (v := ?_) rfl (by kernel_rfl) (by kernel_rfl) (by kernel_rfl) (fun _ _ _ h => h) (Or.inl ⟨by kernel_rfl, ?_⟩) (by assumption) ?_
            rotate_left
            any_goals (intro w hSw; (try dsimp only at hSw); go_simp; first | done | (with_reducible rfl))
            try simp only [Act.put, List.getElem_toArray, List.getElem_cons_succ, List.getElem_cons_zero, List.setIfInBounds_toArray, List.set_cons_zero, List.set_cons_succ]
            refine wpAnyH_take (i := 30) (oi := _) (v := ?_) rfl (by kernel_rfl) (by kernel_rfl) (by kernel_rfl) (fun _ _ _ h => h) (Or.inl ⟨by kernel_rfl, ?_⟩) (by assumption) ?_
            rotate_left
            any_goals (intro w hSw; (try dsimp only at hSw); go_simp; first | done | (with_reducible rfl))
            try simp only [Act.put, List.getElem_toArray, List.getElem_cons_succ, List.getElem_cons_zero, List.setIfInBounds_toArray, List.set_cons_zero, List.set_cons_succ]
            refine wpAnyH_done (by kernel_rfl) ?_ _
            go_wp2_with fail
            go_ret
            exact ⟨rfl, BL8.out⟩
        · have hnb : ((X.q : Int) == (B.q : Int)) = false := by rw [beq_eq_false_iff_ne]; omega
          clear hqb
          have HC6 : w6.drew.cell? ⟨xk, 0, none⟩ = some (.int .i64 B.q) ∧ w6.drew.cell? ⟨xk, 1, none⟩ = some (.map (some mk)) ∧ w6.drew.cell? ⟨xm, 0, none⟩ = some (.int .i64 X.q) ∧ w6.drew.cell? ⟨xm, 1, none⟩ = some (.map (some mm)) := ⟨HD6.out.k.has.cell 0, HD6.out.k.has.cell 1, HD6.out.m.has.cell 0, HD6.out.m.has.cell 1⟩
          obtain ⟨x06, x16, y06, y16⟩ := HC6
          refine wp_region_held_drew (S := fun w' => w'.cell? ⟨xk, 0, none⟩ = some (.int .i64 B.q) ∧ w'.cell? ⟨xk, 1, none⟩ = some (.map (some mk)) ∧ w'.cell? ⟨xm, 0, none⟩ = some (.int .i64 X.q) ∧ w'.cell? ⟨xm, 1, none⟩ = some (.map (some mm))) (by kernel_rfl) ?_ (fun hHeld => ?_)
          · exact ⟨x06, x16, y06, y16⟩
          generalize w6.drew = u at *
          refine wpAnyH_take (i := 0) (oi := _) (v := ?_) rfl (by kernel_rfl) (by kernel_rfl) (by kernel_rfl) (fun _ _ _ h => h) (Or.inl ⟨by kernel_rfl, ?_⟩) (by assumption) ?_
          rotate_left
          any_goals (intro w hSw; (try dsimp only at hSw); go_simp; first | done | (with_reducible rfl))
          try simp only [Act.put, List.getElem_toArray, List.getElem_cons_succ, List.getElem_cons_zero, List.setIfInBounds_toArray, List.set_cons_zero, List.set_cons_succ]
          refine wpAnyH_take (i := 1) (oi := _) (v := ?_) rfl (by kernel_rfl) (by kernel_rfl) (by kernel_rfl) (fun _ _ _ h => h) (Or.inl ⟨by kernel_rfl, ?_⟩) (by assumption) ?_
          rotate_left
          any_goals (intro w hSw; (try dsimp only at hSw); go_simp; first | done | (with_reducible rfl))
          try simp only [Act.put, List.getElem_toArray, List.getElem_cons_succ, List.getElem_cons_zero, List.setIfInBounds_toArray, List.set_cons_zero, List.set_cons_succ]
          refine wpAnyH_take (i := 2) (oi := _) (v := ?_) rfl (by kernel_rfl) (by kernel_rfl) (by kernel_rfl) (fun _ _ _ h => h) (Or.inl ⟨by kernel_rfl, ?_⟩) (by assumption) ?_
          rotate_left
          any_goals (intro w hSw; (try dsimp only at hSw); go_simp; first | done | (with_reducible rfl))
          try simp only [Act.put, List.getElem_toArray, List.getElem_cons_succ, List.getElem_cons_zero, List.setIfInBounds_toArray, List.set_cons_zero, List.set_cons_succ]
          refine wpAnyH_take (i := 3) (oi := _) (v := ?_) rfl (by kernel_rfl) (by kernel_rfl) (by kernel_rfl) (fun _ _ _ h => h) (Or.inl ⟨by kernel_rfl, ?_⟩) (by assumption) ?_
          rotate_left
          any_goals (intro w hSw; (try dsimp only at hSw); go_simp; first | done | (with_reducible rfl))
          try simp only [Act.put, List.getElem_toArray, List.getElem_cons_succ, List.getElem_cons_zero, List.setIfInBounds_toArray, List.set_cons_zero, List.set_cons_succ]
          refine wpAnyH_take (i := 4) (oi := _) (v := ?_) rfl (by kernel_rfl) (by kernel_rfl) (by kernel_rfl) (fun _ _ _ h => h) (Or.inl ⟨by kernel_rfl, ?_⟩) (by assumption) ?_
          rotate_left
          any_goals (intro w hSw; (try dsimp only at hSw); go_simp; first | done | (with_reducible rfl))
          try simp only [Act.put, List.getElem_toArray, List.getElem_cons_succ, List.getElem_cons_zero, List.setIfInBounds_toArray, List.set_cons_zero, List.set_cons_succ]
          refine wpAnyH_take (i := 5) (oi := _) (v := ?_) rfl (by kernel_rfl) (by kernel_rfl) (by kernel_rfl) (fun _ _ _ h => h) (Or.inl ⟨by kernel_rfl, ?_⟩) (by assumption) ?_
          rotate_left
          any_goals (intro w hSw; (try dsimp only at hSw); go_simp; first | done | (with_reducible rfl))
          try simp only [Act.put, List.getElem_toArray, List.getElem_cons_succ, List.getElem_cons_zero, List.setIfInBounds_toArray, List.set_cons_zero, List.set_cons_succ]
          refine wpAnyH_take (i := 6) (oi := _) (v := ?_) rfl (by kernel_rfl) (by kernel_rfl) (by kernel_rfl) (fun _ _ _ h => h) (Or.inl ⟨by kernel_rfl, ?_⟩) (by assumption) ?_
          rotate_left
          any_goals (intro w hSw; (try dsimp only at hSw); go_simp; first | done | (with_reducible rfl))
          try simp only [Act.put, List.getElem_toArray, List.getElem_cons_succ, List.getElem_cons_zero, List.setIfInBounds_toArray, List.set_cons_zero, List.set_cons_succ]
          refine wpAnyH_take (i := 7) (oi := _) (v := ?_) rfl (by kernel_rfl) (by kernel_rfl) (by kernel_rfl) (fun _ _ _ h => h) (Or.inl ⟨by kernel_rfl, ?_⟩) (by assumption) ?_
          rotate_left
          any_goals (intro w hSw; (try dsimp only at hSw); go_simp; first | done | (with_reducible rfl))
          try simp only [Act.put, List.getElem_toArray, List.getElem_cons_succ, List.getElem_cons_zero, List.setIfInBounds_toArray, List.set_cons_zero, List.set_cons_succ]
          refine wpAnyH_take (i := 9) (oi := _) (v := ?_) rfl (by kernel_rfl) (by kernel_rfl) (by kernel_rfl) (fun _ _ _ h => h) (Or.inl ⟨by kernel_rfl, ?_⟩) (by assumption) ?_
          rotate_left
          any_goals (intro w hSw; (try dsimp only at hSw); go_simp; first | done | (with_reducible rfl))
          try simp only [Act.put, List.getElem_toArray, List.getElem_cons_succ, List.getElem_cons_zero, List.setIfInBounds_toArray, List.set_cons_zero, List.set_cons_succ]
          refine wpAnyH_take (i := 10) (oi := _) (v := ?_) rfl (by kernel_rfl) (by kernel_rfl) (by kernel_rfl) (fun _ _ _ h => h) (Or.inl ⟨by kernel_rfl, ?_⟩) (by assumption) ?_
          rotate_left
          any_goals (intro w hSw; (try dsimp only at hSw); go_simp; first | done | (with_reducible rfl))
          try simp only [Act.put, List.getElem_toArray, List.getElem_cons_succ, List.getElem_cons_zero, List.setIfInBounds_toArray, List.set_cons_zero, List.set_cons_succ]
          refine wpAnyH_ready (rs := [8]) (by kernel_rfl) (by simp) ?_
          refine AllReadyH.cons (o := _) rfl (fun K hK => ?_) AllReadyH.nil
          go_simp
          (go_at_call 48; refine (PGS.out _ _ _ _ _ _ HL6.out PV6.out).mono ?_; rintro e w7 ⟨rfl, rfl⟩)
          (try go_wp2_with fail)
          refine hK.out _ _ ?_ (fun hHeld => ?_)
          · exact ⟨x06, x16, y06, y16⟩
          clear hK K
          try simp only [Act.put, List.getElem_toArray, List.getElem_cons_succ, List.getElem_cons_zero, List.setIfInBounds_toArray, List.set_cons_zero, List.set_cons_succ]
          refine wpAnyH_take (i := 11) (oi := _) (v := ?_) rfl (by kernel_rfl) (by kernel_rfl) (by kernel_rfl) (fun _ _ _ h => h) (Or.inl ⟨by kernel_rfl, ?_⟩) (by assumption) ?_
          rotate_left
          any_goals (intro w hSw; (try dsimp only at hSw); go_simp; first | done | (with_reducible rfl))
          try simp only [Act.put, List.getElem_toArray, List.getElem_cons_succ, List.getElem_cons_zero, List.setIfInBounds_toArray, List.set_cons_zero, List.set_cons_succ]
          refine wpAnyH_take (i := 12) (oi := _) (v := ?_) rfl (by kernel_rfl) (by kernel_rfl) (by kernel_rfl) (fun _ _ _ h => h) (Or.inl ⟨by kernel_rfl, ?_⟩) (by assumption) ?_
          rotate_left
          any_goals (intro w hSw; (try dsimp only at hSw); go_simp; first | done | (with_reducible rfl))
          try simp only [Act.put, List.getElem_toArray, List.getElem_cons_succ, List.getElem_cons_zero, List.setIfInBounds_toArray, List.set_cons_zero, List.set_cons_succ]
          refine wpAnyH_take (i := 13) (oi := _) (v := undef) rfl (by kernel_rfl) (by kernel_rfl) (by kernel_rfl) (fun _ _ _ h => h) (Or.inr ⟨by kernel_rfl, rfl⟩) (by assumption) ?_
          try simp only [Act.put, List.getElem_toArray, List.getElem_cons_succ, List.getElem_cons_zero, List.setIfInBounds_toArray, List.set_cons_zero, List.set_cons_succ]
          refine wpAnyH_take (i := 14) (oi := _) (v := undef) rfl (by kernel_rfl) (by kernel_rfl) (by kernel_rfl) (fun _ _ _ h => h) (Or.inr ⟨by kernel_rfl, rfl⟩) (by assumption) ?_
          try simp only [Act.put, List.getElem_toArray, List.getElem_cons_succ, List.getElem_cons_zero, List.setIfInBounds_toArray, List.set_cons_zero, List.set_cons_succ]
          refine wpAnyH_take (i := 15) (oi := _) (v := undef) rfl (by kernel_rfl) (by kernel_rfl) (by kernel_rfl) (fun _ _ _ h => h) (Or.inr ⟨by kernel_rfl, rfl⟩) (by assumption) ?_
          try simp only [Act.put, List.getElem_toArray, List.getElem_cons_succ, List.getElem_cons_zero, List.setIfInBounds_toArray, List.set_cons_zero, List.set_cons_succ]
          refine wpAnyH_take (i := 16) (oi := _) (v := ?_) rfl (by kernel_rfl) (by kernel_rfl) (by kernel_rfl) (fun _ _ _ h => h) (Or.inl ⟨by kernel_rfl, ?_⟩) (by assumption) ?_
          rotate_left
          any_goals (intro w hSw; (try dsimp only at hSw); go_simp; first | done | (with_reducible rfl))
          try simp only [Act.put, List.getElem_toArray, List.getElem_cons_succ, List.getElem_cons_zero, List.setIfInBounds_toArray, List.set_cons_zero, List.set_cons_succ]
          refine wpAnyH_take (i := 17) (oi := _) (v := ?_) rfl (by kernel_rfl) (by kernel_rfl) (by kernel_rfl) (fun _ _ _ h => h) (Or.inl ⟨by kernel_rfl, ?_⟩) (by assumption) ?_
          rotate_left
          any_goals (intro w hSw; (try dsimp only at hSw); go_simp; first | done | (with_reducible rfl))
          try simp only [Act.put, List.getElem_toArray, List.getElem_cons_succ, List.getElem_cons_zero, List.setIfInBounds_toArray, List.set_cons_zero, List.set_cons_succ]
          refine wpAnyH_take (i := 18) (oi := _) (v := ?_) rfl (by kernel_rfl) (by kernel_rfl) (by kernel_rfl) (fun _ _ _ h => h) (Or.inl ⟨by kernel_rfl, ?_⟩) (by assumption) ?_
          rotate_left
          any_goals (intro w hSw; (try dsimp only at hSw); go_simp; first | done | (with_reducible rfl))
          try simp only [Act.put, List.getElem_toArray, List.getElem_cons_succ, List.getElem_cons_zero, List.setIfInBounds_toArray, List.set_cons_zero, List.set_cons_succ]
          refine wpAnyH_take (i := 20) (oi := _) (v := ?_) rfl (by kernel_rfl) (by kernel_rfl) (by kernel_rfl) (fun _ _ _ h => h) (Or.inl ⟨by kernel_rfl, ?_⟩) (by assumption) ?_
          rotate_left
          any_goals (intro w hSw; (try dsimp only at hSw); go_simp; first | done | (with_reducible rfl))
          try simp only [Act.put, List.getElem_toArray, List.getElem_cons_succ, List.getElem_cons_zero, List.setIfInBounds_toArray, List.set_cons_zero, List.set_cons_succ]
          refine wpAnyH_take (i := 21) (oi := _) (v := ?_) rfl (by kernel_rfl) (by kernel_rfl) (by kernel_rfl) (fun _ _ _ h => h) (Or.inl ⟨by kernel_rfl, ?_⟩) (by assumption) ?_
          rotate_left
          any_goals (intro w hSw; (try dsimp only at hSw); go_simp; first | done | (with_reducible rfl))
          try simp only [Act.put, List.getElem_toArray, List.getElem_cons_succ, List.getElem_cons_zero, List.setIfInBounds_toArray, List.set_cons_zero, List.set_cons_succ]
          refine wpAnyH_ready (rs := [19]) (by kernel_rfl) (by simp) ?_
          refine AllReadyH.cons (o := _) rfl (fun K hK => ?_) AllReadyH.nil
          go_simp
          (go_at_call 48; refine (PGS.out _ _ _ _ _ _ HL6.out PV6.out).mono ?_; rintro e w7 ⟨rfl, rfl⟩)
          (try go_wp2_with fail)
          refine hK.out _ _ ?_ (fun hHeld => ?_)
          · exact ⟨x06, x16, y06, y16⟩
          clear hK K
          try simp only [Act.put, List.getElem_toArray, List.getElem_cons_succ, List.getElem_cons_zero, List.setIfInBounds_toArray, List.set_cons_zero, List.set_cons_succ]
          refine wpAnyH_take (i := 22) (oi := _) (v := ?_) rfl (by kernel_rfl) (by kernel_rfl) (by kernel_rfl) (fun _ _ _ h => h) (Or.inl ⟨by kernel_rfl, ?_⟩) (by assumption) ?_
          rotate_left
          any_goals (intro w hSw; (try dsimp only at hSw); go_simp; first | done | (with_reducible rfl))
          try simp only [Act.put, List.getElem_toArray, List.getElem_cons_succ, List.getElem_cons_zero, List.setIfInBounds_toArray, List.set_cons_zero, List.set_cons_succ]
          refine wpAnyH_take (i := 23) (oi := _) (v := ?_) rfl (by kernel_rfl) (by kernel_rfl) (by kernel_rfl) (fun _ _ _ h => h) (Or.inl ⟨by kernel_rfl, ?_⟩) (by assumption) ?_
          rotate_left
          any_goals (intro w hSw; (try dsimp only at hSw); go_simp; first | done | (with_reducible rfl))
          try simp only [Act.put, List.getElem_toArray, List.getElem_cons_succ, List.getElem_cons_zero, List.setIfInBounds_toArray, List.set_cons_zero, List.set_cons_succ]
          refine wpAnyH_take (i := 24) (oi := _) (v := ?_) rfl (by kernel_rfl) (by kernel_rfl) (by kernel_rfl) (fun _ _ _ h => h) (Or.inl ⟨by kernel_rfl, ?_⟩) (by assumption) ?_
          rotate_left
          any_goals (intro w hSw; (try dsimp only at hSw); go_simp; first | done | (with_reducible rfl))
          try simp only [Act.put, List.getElem_toArray, List.getElem_cons_succ, List.getElem_cons_zero, List.setIfInBounds_toArray, List.set_cons_zero, List.set_cons_succ]
          refine wpAnyH_take (i := 25) (oi := _) (v := ?_) rfl (by kernel_rfl) (by kernel_rfl) (by kernel_rfl) (fun _ _ _ h => h) (Or.inl ⟨by kernel_rfl, ?_⟩) (by assumption) ?_
          rotate_left
          any_goals (intro w hSw; (try dsimp only at hSw); go_simp; first | done | (with_reducible rfl))
          try simp only [Act.put, List.getElem_toArray, List.getElem_cons_succ, List.getElem_cons_zero, List.setIfInBounds_toArray, List.set_cons_zero, List.set_cons_succ]
          refine wpAnyH_ready (rs := [26]) (by kernel_rfl) (by simp) ?_
          refine AllReadyH.cons (o := _) rfl (fun K hK => ?_) AllReadyH.nil
          go_simp
          (go_at_call 47; refine (RDS.out _ _ _ _ _ _ HL6.out PV6.out 0 mm TM (FT6.out.less (by have := XQ.out; omega)) HD6.out.m.map HD6.out.m.offm).mono ?_; rintro en w9 ⟨r9, P9, b9, n79, n89, A9, rfl, hv, hf, hr, hpm, ht⟩)
          have HL9 := Lib.hid hpm; have PV9 := Lib.hid hv; have FT9 := Lib.hid hf; have HD9 := Lib.hid (HD6.out.turn ht); have BL9 := Lib.hid (HD9.out.bel); have RR9 := Lib.hid hr
          clear hv hf hr hpm ht
          obtain rfl : r9 = true := (by cases r9 with | true => rfl | false => exact absurd (RR9.out rfl) (fun h => h.elim NM.out (fun h2 => by rw [PV9.out.up] at h2; cases h2)))
          have X0 := HD9.out.k.has.cell 0; have X1 := HD9.out.k.has.cell 1; have Y0 := HD9.out.m.has.cell 0; have Y1 := HD9.out.m.has.cell 1
          have HC9 : w9.cell? ⟨xk, 0, none⟩ = some (.int .i64 B.q) ∧ w9.cell? ⟨xk, 1, none⟩ = some (.map (some mk)) ∧ w9.cell? ⟨xm, 0, none⟩ = some (.int .i64 X.q) ∧ w9.cell? ⟨xm, 1, none⟩ = some (.map (some mm)) := ⟨HD9.out.k.has.cell 0, HD9.out.k.has.cell 1, HD9.out.m.has.cell 0, HD9.out.m.has.cell 1⟩
          obtain ⟨x09, x19, y09, y19⟩ := HC9
          clear X0 X1 Y0 Y1
          (try go_wp2_with fail)
          refine hK.out _ _ ?_ (fun hHeld => ?_)
          · exact ⟨x09, x19, y09, y19⟩
          clear hK K
          try simp only [Act.put, List.getElem_toArray, List.getElem_cons_succ, List.getElem_cons_zero, List.setIfInBounds_toArray, List.set_cons_zero, List.set_cons_succ]
          refine wpAnyH_take (i := 27) (oi := _) (v := ?_) rfl (by kernel_rfl) (by kernel_rfl) (by kernel_rfl) (fun _ _ _ h => h) (Or.inl ⟨by kernel_rfl, ?_⟩) (by assumption) ?_
          rotate_left
          any_goals (intro w hSw; (try dsimp only at hSw); go_simp; first | done | (with_reducible rfl))
          try simp only [Act.put, List.getElem_toArray, List.getElem_cons_succ, List.getElem_cons_zero, List.setIfInBounds_toArray, List.set_cons_zero, List.set_cons_succ]
          refine wpAnyH_take (i := 28) (oi := _) (v := ?_) rfl (by kernel_rfl) (by kernel_rfl) (by kernel_rfl) (fun _ _ _ h => h) (Or.inl ⟨by kernel_rfl, ?_⟩) (by assumption) ?_
          rotate_left
          any_goals (intro w hSw; (try dsimp only at hSw); go_simp; first | done | (with_reducible rfl))
          try simp only [Act.put, List.getElem_toArray, List.getElem_cons_succ, List.getElem_cons_zero, List.setIfInBounds_toArray, List.set_cons_zero, List.set_cons_succ]
          refine wpAnyH_take (i := 29) (oi := _) (v := ?_) rfl (by kernel_rfl) (by kernel_rfl) (by kernel_rfl) (fun _ _ _ h => h) (Or.inl ⟨by kernel_rfl, ?_⟩) (by assumption) ?_
          rotate_left
          any_goals (intro w hSw; (try dsimp only at hSw); go_simp; first | done | (with_reducible rfl))
          try simp only [Act.put, List.getElem_toArray, List.getElem_cons_succ, List.getElem_cons_zero, List.setIfInBounds_toArray, List.set_cons_zero, List.set_cons_succ]
          refine wpAnyH_take (i := 30) (oi := _) (v := ?_) rfl (by kernel_rfl) (by kernel_rfl) (by kernel_rfl) (fun _ _ _ h => h) (Or.inl ⟨by kernel_rfl, ?_⟩) (by assumption) ?_
          rotate_left
          any_goals (intro w hSw; (try dsimp only at hSw); go_simp; first | done | (with_reducible rfl))
          try simp only [Act.put, List.getElem_toArray, List.getElem_cons_succ, List.getElem_cons_zero, List.setIfInBounds_toArray, List.set_cons_zero, List.set_cons_succ]
          refine wpAnyH_done (by kernel_rfl) ?_ _
          go_wp2_with fail
          go_ret
          exact ⟨rfl, BL9.out⟩

end Go.Proofs.Ytjihboddejaelaa
