/-
  The law PoolKept: acts 0, 1.
-/
import Derived.Test.YtjihboddejaelaaPoolA0q
namespace Go.Proofs.Ytjihboddejaelaa
open Go.RowKit
open Go.BigFrame
open Go.Maps
attribute [local go_sem] OpGood goodUpon fillA Act.put
set_option linter.unusedVariables false
set_option linter.unusedSimpArgs false

set_option maxRecDepth 100000 in
set_option maxHeartbeats 100000000 in
theorem law_act0 (w W3 : World) (gd p xk xn xm z i nn pk mk mn fB : Nat) (hpk : pk = 0) (x : Bx) (P : Pl) (B C : Bk) (TK TN : Nat → Option ByteArray) (a : ActK) (S : ByteArray)
    (K3 : Hid (KP w W3 gd p x P xk xn xm mk mn mk i B.q C.q B.q TK TN TK)) (H3 : Hid (Has W3 z 45 #[.int .i64 a.kind, .int .i64 a.f, .int .i64 a.at_, .int .i64 a.n, .string a.s, .string a.t]))
    (S3 : Hid (St P B C TK TN fB (1 + 3 * i) (1 + i))) (F3 : Hid (Fit P.L.D ((250 - i) * 100000 + 90000))) (OKP : Hid P.ok) (SH : Hid (∀ w1 : World, Calls Try.prog 16 #[.int .i64 a.at_] w1 fun e w' => e = .returned (.string S) ∧ Below w1.heap.size w1 w'))
    (SZ : Hid (S.size = 1024)) (NN : Hid (1 ≤ nn ∧ nn ≤ 20)) (I1 : Hid (i < 250)) (HZX : Hid (z ≠ xm ∧ z ≠ xn ∧ z ≠ xk ∧ some z ∉ x.all p ∧ w.heap.size ≤ z))
    (u0 u1 u2 u3 u4 u5 u6 u7 u8 u9 u15 u16 u19 u20 u21 u22 u23 u24 u25 u26 u27 u28 u29 u30 u31 u32 u33 u34 u35 u36 u37 u38 u39 u40 u41 u42 u43 u44 u45 u46 u47 u48 u49 u51 u52 u53 u54 u55 u56 u57 u58 u59 u60 u62 u63 u64 u65 u66 u67 u68 u69 u70 u71 u72 u73 u74 u75 u76 u77 u78 u79 u80 u81 u82 u83 u84 u85 u86 u87 u88 u89 u90 u91 u92 u93 u94 u95 u96 u97 u98 u99 u100 u101 u102 u103 u104 u105 u106 u107 u108 u109 u110 u111 u112 u113 u114 u115 u116 u117 u118 u119 u120 u121 u122 u123 u124 u125 u126 u127 u128 u129 u130 u131 u132 u133 u134 u135 u136 u137 u138 u139 u140 u141 u142 u143 u144 u145 u146 u147 u148 u149 u150 u151 u152 u153 u154 u155 u156 u157 u158 u159 u160 u161 u162 u163 u164 u165 u166 u167 u168 u169 u170 u171 u172 u173 u174 u175 u176 u177 u178 u179 u180 u181 u182 u183 u184 u185 u186 u187 u188 u189 u190 u191 u192 u193 u194 u195 u196 u197 u198 u199 u200 u201 u202 u203 u204 u205 u206 u207 u208 u209 u210 u211 u212 u213 u214 u215 u216 : Value) (J K' K1 KI KJ : Act → World → Prop) (R : Ending → World → Prop)
    (hJ : ∀ (a' : Act) (w' : World), (∃ e11 e18 e19 e20 e21 e22 e50 e51 e52 e53 e54 e55 e56 e57 e58 e59 e60 e61 e62 e63 e64 e65 e66 e67 e68 e69 e70 e71 e72 e73 e74 e75 e76 e77 e78 e79 e80 e81 e82 e83 e84 e85 e86 e87 e88 e89 e90 e91 e92 e93 e94 e95 e96 e97 e98 e99 e100 e101 e102 e103 e104 e105 e106 e107 e108 e109 e110 e111 e112 e113 e114 e115 e116 e117 e118 e119 e120 e121 e122 e123 e124 e125 e126 e127 e128 e129 e130 e131 e132 e133 e134 e135 e136 e137 e138 e139 e140 e141 e142 e143 e144 e145 e146 e147 e148 e149 e150 e151 e152 e153 e154 e155 e156 e157 e158, (e50 = .int .i64 i ∧ ∃ E : Int, e11 = .int .i64 E ∧ MidP w w' gd p xk xn xm i E) ∧ a' = { tmps := #[u0, u1, u2, u3, u4, u5, u6, u7, u8, u9, ptrB p, e11, .pointer (some ⟨xk, 0, none⟩), ptrB xn, ptrB xm, u15, u16, .pointer (some ⟨z, 0, none⟩), e18, e19, e20, e21, e22, u23, u24, u25, u26, u27, u28, u29, u30, u31, u32, u33, u34, u35, u36, u37, u38, u39, u40, u41, u42, u43, u44, u45, u46, u47, u48, u49, e50, e51, e52, e53, e54, e55, e56, e57, e58, e59, e60, e61, e62, e63, e64, e65, e66, e67, e68, e69, e70, e71, e72, e73, e74, e75, e76, e77, e78, e79, e80, e81, e82, e83, e84, e85, e86, e87, e88, e89, e90, e91, e92, e93, e94, e95, e96, e97, e98, e99, e100, e101, e102, e103, e104, e105, e106, e107, e108, e109, e110, e111, e112, e113, e114, e115, e116, e117, e118, e119, e120, e121, e122, e123, e124, e125, e126, e127, e128, e129, e130, e131, e132, e133, e134, e135, e136, e137, e138, e139, e140, e141, e142, e143, e144, e145, e146, e147, e148, e149, e150, e151, e152, e153, e154, e155, e156, e157, e158, u159, u160, u161, u162, u163, u164, u165, u166, u167, u168, u169, u170, u171, u172, u173, u174, u175, u176, u177, u178, u179, u180, u181, u182, u183, u184, u185, u186, u187, u188, u189, u190, u191, u192, u193, u194, u195, u196, u197, u198, u199, u200, u201, u202, u203, u204, u205, u206, u207, u208, u209, u210, u211, u212, u213, u214, u215, u216], defers := [] }) → J a' w') (hK : ∀ (a' : Act) (w' : World), Met J a' w' → K' a' w') :
    Code.wp Try.prog (behind 1 (firstC (behind 3 (innerC (firstC (behind 2 (innerC (innerC (behind 1 (firstC (behind 9 (Try.f6.body.getD .skip)))))))))))) (Exit.then K' (Exit.inBlock 1 (Exit.then K1 (Exit.then KI (Exit.inBlock 0 (Exit.then KJ (bodyPost Try.prog Try.f6 R))))))) { tmps := #[u0, u1, u2, u3, u4, u5, u6, u7, u8, u9, ptrB p, .int .i64 0, .pointer (some ⟨xk, 0, none⟩), ptrB xn, ptrB xm, u15, u16, .pointer (some ⟨z, 0, none⟩), .int .i64 nn, u19, u20, u21, u22, u23, u24, u25, u26, u27, u28, u29, u30, u31, u32, u33, u34, u35, u36, u37, u38, u39, u40, u41, u42, u43, u44, u45, u46, u47, u48, u49, .int .i64 i, u51, u52, u53, u54, u55, u56, u57, u58, u59, u60, .int .i64 pk, u62, u63, u64, u65, u66, u67, u68, u69, u70, u71, u72, u73, u74, u75, u76, u77, u78, u79, u80, u81, u82, u83, u84, u85, u86, u87, u88, u89, u90, u91, u92, u93, u94, u95, u96, u97, u98, u99, u100, u101, u102, u103, u104, u105, u106, u107, u108, u109, u110, u111, u112, u113, u114, u115, u116, u117, u118, u119, u120, u121, u122, u123, u124, u125, u126, u127, u128, u129, u130, u131, u132, u133, u134, u135, u136, u137, u138, u139, u140, u141, u142, u143, u144, u145, u146, u147, u148, u149, u150, u151, u152, u153, u154, u155, u156, u157, u158, u159, u160, u161, u162, u163, u164, u165, u166, u167, u168, u169, u170, u171, u172, u173, u174, u175, u176, u177, u178, u179, u180, u181, u182, u183, u184, u185, u186, u187, u188, u189, u190, u191, u192, u193, u194, u195, u196, u197, u198, u199, u200, u201, u202, u203, u204, u205, u206, u207, u208, u209, u210, u211, u212, u213, u214, u215, u216], defers := [] } W3 := by
  conv =>
    arg 2
    simp only [Try.f6, Option.getD, behind, firstC, innerC]
  conv =>
    arg 4
    dsimp only
  dsimp only at hJ
  subst hpk
  rw [show ((0 : Nat) : Int) = 0 from rfl]

  obtain ⟨al1, al2⟩ := st_alloc S3.out (by have := I1.out; omega) (by have := I1.out; omega)
  have AC := Lib.hid (kp_Alloc K3.out OKP.out (F3.out.less (by omega)))
  have AF := Lib.hid (alloc_fit (k := (250 - i) * 100000 + 20000) (F3.out.less (by omega)))
  obtain ⟨R, hR⟩ : ∃ R, P.alloc.1 = R := ⟨_, rfl⟩
  obtain ⟨E, hE⟩ : ∃ E, P.alloc.2 = E := ⟨_, rfl⟩
  obtain ⟨na, hna⟩ : ∃ n, P.allocT = n := ⟨_, rfl⟩
  rw [hR, hE, hna] at AC
  rw [hR] at AF
  rw [hR, hE, hna] at al1
  rw [hR, hE] at al2
  clear hR hE hna
  by_cases e0 : E = 0
  · obtain ⟨N', n', rfl, hn, hq', hM⟩ := al1 e0
    subst e0
    have NQ := Lib.hid hq'
    have HM := Lib.hid hM
    have OKR := Lib.hid hM.inv.ok
    have hn2 : na ≤ 1000 := by have := I1.out; omega
    clear al1 al2 hq' hM hn
    go_upto_region 21 with ((go_at_call 41; (with_reducible refine AC.out.mono ?_); rintro e w5 ⟨rfl, x5, hk5, ht5⟩))
    have K5 := Lib.hid hk5
    have H5 := Lib.hid (H3.out.turn ht5 HZX.out.2.2.2.1)
    clear hk5 ht5 AC K3 H3
    have WT := Lib.hid (fun u (hb : Below w5.heap.size w5 u) => keep_with mn i (lift TN) na S u (by have := I1.out; omega) (K5.out.n.map.below hb) (wfI (by omega) (by omega)) (by have := SZ.out; unfold maxLen; omega))
    rw [lift_set] at WT
    go_cut [50] from 50 to 158 (fun v50 wx => v50 = .int .i64 i ∧ ∃ nb : Nat, KP w wx gd p x5 R xk xn xm mk nb mk (i + 1) B.q N'.q B.q TK (setT TN na S) TK ∧ Has wx z 45 #[.int .i64 a.kind, .int .i64 a.f, .int .i64 a.at_, .int .i64 a.n, .string a.s, .string a.t])
    case first =>
      have z2 : w5.cell? ⟨z, 2, none⟩ = some (.int .i64 a.at_) := H5.out.cell 2
      have n0 : w5.cell? ⟨xn, 0, none⟩ = some (.int .i64 C.q) := K5.out.n.has.cell 0
      have n1 : w5.cell? ⟨xn, 1, none⟩ = some (.map (some mn)) := K5.out.n.has.cell 1
      have hxl := K5.out.n.has.lt
      have hzl := H5.out.lt
      have MX : Hid (max (C.q : Int) ((na : Int) + 1) = (N'.q : Int)) := Lib.hid (by rw [NQ.out]; omega)
      have hwr : IntKind.i64.wrap ((na : Int) + 1) = (na : Int) + 1 := IntWalk.i64_in _ (by omega)
      refine wp_region_inv 13 (Cls (w5)) (allocP xn z na C.q N'.q mn i a.at_ S TN w5.heap.size) (by kernel_rfl) (by kernel_rfl) (by kernel_rfl) (fun _ _ hC hb => Cls.step hC hb) ?hst (Cls.start _) ?hops ?hend
      case hst => exact allocP_stable _ _ _ _ _ _ _ _ _ _ _
      case hops =>
        intro us wx hus hC
        obtain ⟨u0, u1, u2, u3, u4, u5, u6, u7, u8, u9, u10, u11, u12, rfl⟩ : ∃ u0 u1 u2 u3 u4 u5 u6 u7 u8 u9 u10 u11 u12, us = [u0, u1, u2, u3, u4, u5, u6, u7, u8, u9, u10, u11, u12] := by
          match us, hus with
          | [u0, u1, u2, u3, u4, u5, u6, u7, u8, u9, u10, u11, u12], _ => exact ⟨u0, u1, u2, u3, u4, u5, u6, u7, u8, u9, u10, u11, u12, rfl⟩
        clear hus
        simp only [fillA, Act.put, List.take_succ_cons, List.take_zero, List.setIfInBounds_toArray, List.set_cons_zero, List.set_cons_succ]
        refine ⟨fun h => ?_, fun h => ?_, fun h => ?_, fun h => ?_, fun h => ?_, fun h => ?_, fun h => ?_, fun h => ?_, fun h => ?_, fun h => ?_, fun h => ?_, fun h => ?_, fun h => ?_, trivial⟩
        · (clear h; refine good_plain rfl ?_; go_simp; exact ⟨Below.refl _ _, rfl⟩)
        · obtain rfl := h 0 rfl
          (clear h; refine good_plain rfl ?_; obtain ⟨hc, hf⟩ := hC.facts; go_simp; exact ⟨Below.refl _ _, rfl⟩)
        · (clear h; refine good_plain rfl ?_; go_simp; exact ⟨Below.refl _ _, rfl⟩)
        · obtain rfl := h 2 rfl
          (clear h; refine good_plain rfl ?_; go_simp; exact ⟨Below.refl _ _, rfl⟩)
        · obtain rfl := h 1 rfl
          obtain rfl := h 3 rfl
          (clear h; refine good_plain rfl ?_; go_simp; exact ⟨Below.refl _ _, congrArg (Value.int .i64) MX.out⟩)
        · (clear h; refine good_plain rfl ?_; go_simp; exact ⟨Below.refl _ _, rfl⟩)
        · obtain rfl := h 5 rfl
          (clear h; refine good_plain rfl ?_; obtain ⟨hc, hf⟩ := hC.facts; go_simp; exact ⟨Below.refl _ _, rfl⟩)
        · (clear h; refine good_plain rfl ?_; go_simp; exact ⟨Below.refl _ _, rfl⟩)
        · (clear h; refine good_plain rfl ?_; go_simp; exact ⟨Below.refl _ _, rfl⟩)
        · obtain rfl := h 8 rfl
          (clear h; refine good_plain rfl ?_; obtain ⟨hc, hf⟩ := hC.facts; go_simp; exact ⟨Below.refl _ _, rfl⟩)
        · obtain rfl := h 9 rfl
          (clear h; refine good_plain rfl ?_; go_simp; refine (SH.out _).mono ?_; rintro e w1 ⟨rfl, hb⟩; exact ⟨_, rfl, hb, rfl⟩)
        · obtain rfl := h 6 rfl
          obtain rfl := h 7 rfl
          obtain rfl := h 10 rfl
          (clear h; refine good_plain rfl ?_; go_simp; refine (WT.out _ hC.bel).mono ?_; rintro e w1 ⟨nb, rfl, hms, hln, hb⟩; exact ⟨_, rfl, hb, nb, rfl, hms, Nat.le_trans hC.bel.size hln⟩)
        · obtain rfl := h 4 rfl
          obtain ⟨nb, rfl, hms, hln⟩ := h 11 rfl
          (clear h; refine good_plain rfl ?_; go_simp; exact ⟨Below.refl _ _, nb, rfl, hms, hln⟩)
      case hend =>
        intro us wx hus hC
        obtain ⟨u0, u1, u2, u3, u4, u5, u6, u7, u8, u9, u10, u11, u12, rfl⟩ : ∃ u0 u1 u2 u3 u4 u5 u6 u7 u8 u9 u10 u11 u12, us = [u0, u1, u2, u3, u4, u5, u6, u7, u8, u9, u10, u11, u12] := by
          match us, hus with
          | [u0, u1, u2, u3, u4, u5, u6, u7, u8, u9, u10, u11, u12], _ => exact ⟨u0, u1, u2, u3, u4, u5, u6, u7, u8, u9, u10, u11, u12, rfl⟩
        clear hus
        intro hall
        obtain ⟨h0, h1, h2, h3, h4, h5, h6, h7, h8, h9, h10, h11, h12, _⟩ := hall
        obtain ⟨nb, rfl, hms, hln⟩ := h12
        have HC := Lib.hid hC.bel
        have y0 : wx.cell? ⟨xn, 0, none⟩ = some (.int .i64 C.q) := (K5.out.below HC.out).n.has.cell 0
        have y1 : wx.cell? ⟨xn, 1, none⟩ = some (.map (some mn)) := (K5.out.below HC.out).n.has.cell 1
        have yf := (K5.out.below HC.out).n.has.frozen
        have K6 := Lib.hid (((K5.out.below HC.out).mono (Nat.le_succ _)).storeN (q' := N'.q) hms (fun h2 => by have := PM.lt K5.out.pm _ h2; omega) (by have := K5.out.bel.size; omega))
        have H6 := Lib.hid ((H5.out.belowS HC.out).turn (two_turn wx xn (.int .i64 N'.q) (.map (some nb))) (by simpa using HZX.out.2.1))
        clear h0 h1 h2 h3 h4 h5 h6 h7 h8 h9 h10 h11 hC hms hln z2 n0 n1
        go_wp2_with fail
        go_meet
        exact ⟨rfl, nb, K6.out, H6.out⟩
    case rest =>
      obtain ⟨rfl, nb, hk7, hh7⟩ := hcut
      have K7 := Lib.hid hk7
      have z2 : wc.cell? ⟨z, 2, none⟩ = some (.int .i64 a.at_) := hh7.cell 2
      clear hk7 hh7 WT K5 H5
      obtain ⟨f1, f2⟩ := half_write HM.out (by have := I1.out; omega) (by have := I1.out; omega) SZ.out
      have FF := Lib.hid (write_fit (k := (250 - i) * 100000 + 10000) (AF.out.less (by omega)) na S)
      have KF := Lib.hid (fun (w1 : World) (h1 : KP w w1 gd p x5 R xk xn xm mk nb mk (i + 1) B.q N'.q B.q TK (setT TN na S) TK) => kp_Write h1 OKR.out (AF.out.less (by omega)) na (by omega) S)
      have F1 := Lib.hid f1; have F2 := Lib.hid f2
      obtain ⟨R2, hR2⟩ : ∃ R2, (R.write na S).1 = R2 := ⟨_, rfl⟩
      obtain ⟨E2, hE2⟩ : ∃ E2, (R.write na S).2 = E2 := ⟨_, rfl⟩
      rw [hR2, hE2] at KF F1 F2
      rw [hR2] at FF
      clear f1 f2 hR2 hE2
      generalize wc = W7 at *
      go_wp2_with (first
        | (go_at_call 16; (with_reducible refine (SH.out _).mono ?_); rintro e w8 ⟨rfl, hb8⟩; have K8 := Lib.hid (K7.out.below hb8); clear hb8)
        | (go_at_call 42; (with_reducible refine (KF.out _ K8.out).mono ?_); rintro e w9 ⟨rfl, x9, hk9, ht9⟩))
      go_meet
      refine ⟨rfl, E2, rfl, ?_⟩
      by_cases e0 : E2 = 0
      · exact .inl ⟨e0, _, R2, B, N'.put na S, mk, nb, mk, B.q, fB, TK, _, TK, hk9, (F1.out e0).more (by omega) (by omega), FF.out.less (by omega)⟩
      · exact .inr ⟨e0, _, R2, B, mk, nb, mk, i + 1, N'.q, B.q, TK, _, TK, hk9, FF.out.less (by omega), fun _ => (F2.out e0 B.q TK).1, (F2.out e0 B.q TK).2⟩
  · have n1 : (E == 0) = false := by simpa using e0
    have HE := Lib.hid e0
    have AL := Lib.hid (al2 e0)
    clear e0 al1 al2
    go_wp2_with ((go_at_call 41; (with_reducible refine AC.out.mono ?_); rintro e w5 ⟨rfl, x5, hk5, ht5⟩))
    go_meet
    exact ⟨rfl, E, rfl, .inr ⟨HE.out, _, R, B, mk, mn, mk, i, C.q, B.q, TK, TN, TK, hk5, AF.out.less (by omega), fun _ => (AL.out B.q TK).1, (AL.out B.q TK).2⟩⟩
set_option maxRecDepth 100000 in
set_option maxHeartbeats 100000000 in
theorem law_act1 (w W3 : World) (gd p xk xn xm z i nn pk mk mn fB : Nat) (hpk : pk = 1) (x : Bx) (P : Pl) (B C : Bk) (TK TN : Nat → Option ByteArray) (a : ActK) (S : ByteArray)
    (K3 : Hid (KP w W3 gd p x P xk xn xm mk mn mk i B.q C.q B.q TK TN TK)) (H3 : Hid (Has W3 z 45 #[.int .i64 a.kind, .int .i64 a.f, .int .i64 a.at_, .int .i64 a.n, .string a.s, .string a.t]))
    (S3 : Hid (St P B C TK TN fB (1 + 3 * i) (1 + i))) (F3 : Hid (Fit P.L.D ((250 - i) * 100000 + 90000))) (OKP : Hid P.ok) (SH : Hid (∀ w1 : World, Calls Try.prog 16 #[.int .i64 a.at_] w1 fun e w' => e = .returned (.string S) ∧ Below w1.heap.size w1 w'))
    (SZ : Hid (S.size = 1024)) (NN : Hid (1 ≤ nn ∧ nn ≤ 20)) (I1 : Hid (i < 250)) (HZX : Hid (z ≠ xm ∧ z ≠ xn ∧ z ≠ xk ∧ some z ∉ x.all p ∧ w.heap.size ≤ z))
    (u0 u1 u2 u3 u4 u5 u6 u7 u8 u9 u15 u16 u19 u20 u21 u22 u23 u24 u25 u26 u27 u28 u29 u30 u31 u32 u33 u34 u35 u36 u37 u38 u39 u40 u41 u42 u43 u44 u45 u46 u47 u48 u49 u51 u52 u53 u54 u55 u56 u57 u58 u59 u60 u62 u63 u64 u65 u66 u67 u68 u69 u70 u71 u72 u73 u74 u75 u76 u77 u78 u79 u80 u81 u82 u83 u84 u85 u86 u87 u88 u89 u90 u91 u92 u93 u94 u95 u96 u97 u98 u99 u100 u101 u102 u103 u104 u105 u106 u107 u108 u109 u110 u111 u112 u113 u114 u115 u116 u117 u118 u119 u120 u121 u122 u123 u124 u125 u126 u127 u128 u129 u130 u131 u132 u133 u134 u135 u136 u137 u138 u139 u140 u141 u142 u143 u144 u145 u146 u147 u148 u149 u150 u151 u152 u153 u154 u155 u156 u157 u158 u159 u160 u161 u162 u163 u164 u165 u166 u167 u168 u169 u170 u171 u172 u173 u174 u175 u176 u177 u178 u179 u180 u181 u182 u183 u184 u185 u186 u187 u188 u189 u190 u191 u192 u193 u194 u195 u196 u197 u198 u199 u200 u201 u202 u203 u204 u205 u206 u207 u208 u209 u210 u211 u212 u213 u214 u215 u216 : Value) (J K' K1 KI KJ : Act → World → Prop) (R : Ending → World → Prop)
    (hJ : ∀ (a' : Act) (w' : World), (∃ e11 e18 e19 e20 e21 e22 e50 e51 e52 e53 e54 e55 e56 e57 e58 e59 e60 e61 e62 e63 e64 e65 e66 e67 e68 e69 e70 e71 e72 e73 e74 e75 e76 e77 e78 e79 e80 e81 e82 e83 e84 e85 e86 e87 e88 e89 e90 e91 e92 e93 e94 e95 e96 e97 e98 e99 e100 e101 e102 e103 e104 e105 e106 e107 e108 e109 e110 e111 e112 e113 e114 e115 e116 e117 e118 e119 e120 e121 e122 e123 e124 e125 e126 e127 e128 e129 e130 e131 e132 e133 e134 e135 e136 e137 e138 e139 e140 e141 e142 e143 e144 e145 e146 e147 e148 e149 e150 e151 e152 e153 e154 e155 e156 e157 e158, (e50 = .int .i64 i ∧ ∃ E : Int, e11 = .int .i64 E ∧ MidP w w' gd p xk xn xm i E) ∧ a' = { tmps := #[u0, u1, u2, u3, u4, u5, u6, u7, u8, u9, ptrB p, e11, .pointer (some ⟨xk, 0, none⟩), ptrB xn, ptrB xm, u15, u16, .pointer (some ⟨z, 0, none⟩), e18, e19, e20, e21, e22, u23, u24, u25, u26, u27, u28, u29, u30, u31, u32, u33, u34, u35, u36, u37, u38, u39, u40, u41, u42, u43, u44, u45, u46, u47, u48, u49, e50, e51, e52, e53, e54, e55, e56, e57, e58, e59, e60, e61, e62, e63, e64, e65, e66, e67, e68, e69, e70, e71, e72, e73, e74, e75, e76, e77, e78, e79, e80, e81, e82, e83, e84, e85, e86, e87, e88, e89, e90, e91, e92, e93, e94, e95, e96, e97, e98, e99, e100, e101, e102, e103, e104, e105, e106, e107, e108, e109, e110, e111, e112, e113, e114, e115, e116, e117, e118, e119, e120, e121, e122, e123, e124, e125, e126, e127, e128, e129, e130, e131, e132, e133, e134, e135, e136, e137, e138, e139, e140, e141, e142, e143, e144, e145, e146, e147, e148, e149, e150, e151, e152, e153, e154, e155, e156, e157, e158, u159, u160, u161, u162, u163, u164, u165, u166, u167, u168, u169, u170, u171, u172, u173, u174, u175, u176, u177, u178, u179, u180, u181, u182, u183, u184, u185, u186, u187, u188, u189, u190, u191, u192, u193, u194, u195, u196, u197, u198, u199, u200, u201, u202, u203, u204, u205, u206, u207, u208, u209, u210, u211, u212, u213, u214, u215, u216], defers := [] }) → J a' w') (hK : ∀ (a' : Act) (w' : World), Met J a' w' → K' a' w') :
    Code.wp Try.prog (behind 1 (firstC (behind 3 (innerC (firstC (behind 2 (innerC (innerC (behind 1 (firstC (behind 9 (Try.f6.body.getD .skip)))))))))))) (Exit.then K' (Exit.inBlock 1 (Exit.then K1 (Exit.then KI (Exit.inBlock 0 (Exit.then KJ (bodyPost Try.prog Try.f6 R))))))) { tmps := #[u0, u1, u2, u3, u4, u5, u6, u7, u8, u9, ptrB p, .int .i64 0, .pointer (some ⟨xk, 0, none⟩), ptrB xn, ptrB xm, u15, u16, .pointer (some ⟨z, 0, none⟩), .int .i64 nn, u19, u20, u21, u22, u23, u24, u25, u26, u27, u28, u29, u30, u31, u32, u33, u34, u35, u36, u37, u38, u39, u40, u41, u42, u43, u44, u45, u46, u47, u48, u49, .int .i64 i, u51, u52, u53, u54, u55, u56, u57, u58, u59, u60, .int .i64 pk, u62, u63, u64, u65, u66, u67, u68, u69, u70, u71, u72, u73, u74, u75, u76, u77, u78, u79, u80, u81, u82, u83, u84, u85, u86, u87, u88, u89, u90, u91, u92, u93, u94, u95, u96, u97, u98, u99, u100, u101, u102, u103, u104, u105, u106, u107, u108, u109, u110, u111, u112, u113, u114, u115, u116, u117, u118, u119, u120, u121, u122, u123, u124, u125, u126, u127, u128, u129, u130, u131, u132, u133, u134, u135, u136, u137, u138, u139, u140, u141, u142, u143, u144, u145, u146, u147, u148, u149, u150, u151, u152, u153, u154, u155, u156, u157, u158, u159, u160, u161, u162, u163, u164, u165, u166, u167, u168, u169, u170, u171, u172, u173, u174, u175, u176, u177, u178, u179, u180, u181, u182, u183, u184, u185, u186, u187, u188, u189, u190, u191, u192, u193, u194, u195, u196, u197, u198, u199, u200, u201, u202, u203, u204, u205, u206, u207, u208, u209, u210, u211, u212, u213, u214, u215, u216], defers := [] } W3 := by
  conv =>
    arg 2
    simp only [Try.f6, Option.getD, behind, firstC, innerC]
  conv =>
    arg 4
    dsimp only
  dsimp only at hJ
  subst hpk
  rw [show ((1 : Nat) : Int) = 1 from rfl]

  obtain ⟨al1, al2⟩ := st_alloc S3.out (by have := I1.out; omega) (by have := I1.out; omega)
  have AC := Lib.hid (kp_Alloc K3.out OKP.out (F3.out.less (by omega)))
  have AF := Lib.hid (alloc_fit (k := (250 - i) * 100000 + 20000) (F3.out.less (by omega)))
  obtain ⟨R, hR⟩ : ∃ R, P.alloc.1 = R := ⟨_, rfl⟩
  obtain ⟨E, hE⟩ : ∃ E, P.alloc.2 = E := ⟨_, rfl⟩
  obtain ⟨na, hna⟩ : ∃ n, P.allocT = n := ⟨_, rfl⟩
  rw [hR, hE, hna] at AC
  rw [hR] at AF
  rw [hR, hE, hna] at al1
  rw [hR, hE] at al2
  clear hR hE hna
  by_cases e0 : E = 0
  · obtain ⟨N', n', rfl, hn, hq', hM⟩ := al1 e0
    subst e0
    have NQ := Lib.hid hq'
    have HM := Lib.hid hM
    have OKR := Lib.hid hM.inv.ok
    have hn2 : na ≤ 1000 := by have := I1.out; omega
    clear al1 al2 hq' hM hn
    go_upto_region 21 with ((go_at_call 41; (with_reducible refine AC.out.mono ?_); rintro e w5 ⟨rfl, x5, hk5, ht5⟩))
    have K5 := Lib.hid hk5
    have H5 := Lib.hid (H3.out.turn ht5 HZX.out.2.2.2.1)
    clear hk5 ht5 AC K3 H3
    have WT := Lib.hid (fun u (hb : Below w5.heap.size w5 u) => keep_with mn i (lift TN) na S u (by have := I1.out; omega) (K5.out.n.map.below hb) (wfI (by omega) (by omega)) (by have := SZ.out; unfold maxLen; omega))
    rw [lift_set] at WT
    go_cut [50] from 50 to 158 (fun v50 wx => v50 = .int .i64 i ∧ ∃ nb : Nat, KP w wx gd p x5 R xk xn xm mk nb mk (i + 1) B.q N'.q B.q TK (setT TN na S) TK ∧ Has wx z 45 #[.int .i64 a.kind, .int .i64 a.f, .int .i64 a.at_, .int .i64 a.n, .string a.s, .string a.t])
    case first =>
      have z2 : w5.cell? ⟨z, 2, none⟩ = some (.int .i64 a.at_) := H5.out.cell 2
      have n0 : w5.cell? ⟨xn, 0, none⟩ = some (.int .i64 C.q) := K5.out.n.has.cell 0
      have n1 : w5.cell? ⟨xn, 1, none⟩ = some (.map (some mn)) := K5.out.n.has.cell 1
      have hxl := K5.out.n.has.lt
      have hzl := H5.out.lt
      have MX : Hid (max (C.q : Int) ((na : Int) + 1) = (N'.q : Int)) := Lib.hid (by rw [NQ.out]; omega)
      have hwr : IntKind.i64.wrap ((na : Int) + 1) = (na : Int) + 1 := IntWalk.i64_in _ (by omega)
      refine wp_region_inv 13 (Cls (w5)) (allocP xn z na C.q N'.q mn i a.at_ S TN w5.heap.size) (by kernel_rfl) (by kernel_rfl) (by kernel_rfl) (fun _ _ hC hb => Cls.step hC hb) ?hst (Cls.start _) ?hops ?hend
      case hst => exact allocP_stable _ _ _ _ _ _ _ _ _ _ _
      case hops =>
        intro us wx hus hC
        obtain ⟨u0, u1, u2, u3, u4, u5, u6, u7, u8, u9, u10, u11, u12, rfl⟩ : ∃ u0 u1 u2 u3 u4 u5 u6 u7 u8 u9 u10 u11 u12, us = [u0, u1, u2, u3, u4, u5, u6, u7, u8, u9, u10, u11, u12] := by
          match us, hus with
          | [u0, u1, u2, u3, u4, u5, u6, u7, u8, u9, u10, u11, u12], _ => exact ⟨u0, u1, u2, u3, u4, u5, u6, u7, u8, u9, u10, u11, u12, rfl⟩
        clear hus
        simp only [fillA, Act.put, List.take_succ_cons, List.take_zero, List.setIfInBounds_toArray, List.set_cons_zero, List.set_cons_succ]
        refine ⟨fun h => ?_, fun h => ?_, fun h => ?_, fun h => ?_, fun h => ?_, fun h => ?_, fun h => ?_, fun h => ?_, fun h => ?_, fun h => ?_, fun h => ?_, fun h => ?_, fun h => ?_, trivial⟩
        · (clear h; refine good_plain rfl ?_; go_simp; exact ⟨Below.refl _ _, rfl⟩)
        · obtain rfl := h 0 rfl
          (clear h; refine good_plain rfl ?_; obtain ⟨hc, hf⟩ := hC.facts; go_simp; exact ⟨Below.refl _ _, rfl⟩)
        · (clear h; refine good_plain rfl ?_; go_simp; exact ⟨Below.refl _ _, rfl⟩)
        · obtain rfl := h 2 rfl
          (clear h; refine good_plain rfl ?_; go_simp; exact ⟨Below.refl _ _, rfl⟩)
        · obtain rfl := h 1 rfl
          obtain rfl := h 3 rfl
          (clear h; refine good_plain rfl ?_; go_simp; exact ⟨Below.refl _ _, congrArg (Value.int .i64) MX.out⟩)
        · (clear h; refine good_plain rfl ?_; go_simp; exact ⟨Below.refl _ _, rfl⟩)
        · obtain rfl := h 5 rfl
          (clear h; refine good_plain rfl ?_; obtain ⟨hc, hf⟩ := hC.facts; go_simp; exact ⟨Below.refl _ _, rfl⟩)
        · (clear h; refine good_plain rfl ?_; go_simp; exact ⟨Below.refl _ _, rfl⟩)
        · (clear h; refine good_plain rfl ?_; go_simp; exact ⟨Below.refl _ _, rfl⟩)
        · obtain rfl := h 8 rfl
          (clear h; refine good_plain rfl ?_; obtain ⟨hc, hf⟩ := hC.facts; go_simp; exact ⟨Below.refl _ _, rfl⟩)
        · obtain rfl := h 9 rfl
          (clear h; refine good_plain rfl ?_; go_simp; refine (SH.out _).mono ?_; rintro e w1 ⟨rfl, hb⟩; exact ⟨_, rfl, hb, rfl⟩)
        · obtain rfl := h 6 rfl
          obtain rfl := h 7 rfl
          obtain rfl := h 10 rfl
          (clear h; refine good_plain rfl ?_; go_simp; refine (WT.out _ hC.bel).mono ?_; rintro e w1 ⟨nb, rfl, hms, hln, hb⟩; exact ⟨_, rfl, hb, nb, rfl, hms, Nat.le_trans hC.bel.size hln⟩)
        · obtain rfl := h 4 rfl
          obtain ⟨nb, rfl, hms, hln⟩ := h 11 rfl
          (clear h; refine good_plain rfl ?_; go_simp; exact ⟨Below.refl _ _, nb, rfl, hms, hln⟩)
      case hend =>
        intro us wx hus hC
        obtain ⟨u0, u1, u2, u3, u4, u5, u6, u7, u8, u9, u10, u11, u12, rfl⟩ : ∃ u0 u1 u2 u3 u4 u5 u6 u7 u8 u9 u10 u11 u12, us = [u0, u1, u2, u3, u4, u5, u6, u7, u8, u9, u10, u11, u12] := by
          match us, hus with
          | [u0, u1, u2, u3, u4, u5, u6, u7, u8, u9, u10, u11, u12], _ => exact ⟨u0, u1, u2, u3, u4, u5, u6, u7, u8, u9, u10, u11, u12, rfl⟩
        clear hus
        intro hall
        obtain ⟨h0, h1, h2, h3, h4, h5, h6, h7, h8, h9, h10, h11, h12, _⟩ := hall
        obtain ⟨nb, rfl, hms, hln⟩ := h12
        have HC := Lib.hid hC.bel
        have y0 : wx.cell? ⟨xn, 0, none⟩ = some (.int .i64 C.q) := (K5.out.below HC.out).n.has.cell 0
        have y1 : wx.cell? ⟨xn, 1, none⟩ = some (.map (some mn)) := (K5.out.below HC.out).n.has.cell 1
        have yf := (K5.out.below HC.out).n.has.frozen
        have K6 := Lib.hid (((K5.out.below HC.out).mono (Nat.le_succ _)).storeN (q' := N'.q) hms (fun h2 => by have := PM.lt K5.out.pm _ h2; omega) (by have := K5.out.bel.size; omega))
        have H6 := Lib.hid ((H5.out.belowS HC.out).turn (two_turn wx xn (.int .i64 N'.q) (.map (some nb))) (by simpa using HZX.out.2.1))
        clear h0 h1 h2 h3 h4 h5 h6 h7 h8 h9 h10 h11 hC hms hln z2 n0 n1
        go_wp2_with fail
        go_meet
        exact ⟨rfl, nb, K6.out, H6.out⟩
    case rest =>
      obtain ⟨rfl, nb, hk7, hh7⟩ := hcut
      have K7 := Lib.hid hk7
      have z2 : wc.cell? ⟨z, 2, none⟩ = some (.int .i64 a.at_) := hh7.cell 2
      clear hk7 hh7 WT K5 H5
      obtain ⟨f1, f2⟩ := half_write HM.out (by have := I1.out; omega) (by have := I1.out; omega) SZ.out
      have FF := Lib.hid (write_fit (k := (250 - i) * 100000 + 10000) (AF.out.less (by omega)) na S)
      have KF := Lib.hid (fun (w1 : World) (h1 : KP w w1 gd p x5 R xk xn xm mk nb mk (i + 1) B.q N'.q B.q TK (setT TN na S) TK) => kp_Write h1 OKR.out (AF.out.less (by omega)) na (by omega) S)
      have F1 := Lib.hid f1; have F2 := Lib.hid f2
      obtain ⟨R2, hR2⟩ : ∃ R2, (R.write na S).1 = R2 := ⟨_, rfl⟩
      obtain ⟨E2, hE2⟩ : ∃ E2, (R.write na S).2 = E2 := ⟨_, rfl⟩
      rw [hR2, hE2] at KF F1 F2
      rw [hR2] at FF
      clear f1 f2 hR2 hE2
      generalize wc = W7 at *
      go_wp2_with (first
        | (go_at_call 16; (with_reducible refine (SH.out _).mono ?_); rintro e w8 ⟨rfl, hb8⟩; have K8 := Lib.hid (K7.out.below hb8); clear hb8)
        | (go_at_call 42; (with_reducible refine (KF.out _ K8.out).mono ?_); rintro e w9 ⟨rfl, x9, hk9, ht9⟩))
      go_meet
      refine ⟨rfl, E2, rfl, ?_⟩
      by_cases e0 : E2 = 0
      · exact .inl ⟨e0, _, R2, B, N'.put na S, mk, nb, mk, B.q, fB, TK, _, TK, hk9, (F1.out e0).more (by omega) (by omega), FF.out.less (by omega)⟩
      · exact .inr ⟨e0, _, R2, B, mk, nb, mk, i + 1, N'.q, B.q, TK, _, TK, hk9, FF.out.less (by omega), fun _ => (F2.out e0 B.q TK).1, (F2.out e0 B.q TK).2⟩
  · have n1 : (E == 0) = false := by simpa using e0
    have HE := Lib.hid e0
    have AL := Lib.hid (al2 e0)
    clear e0 al1 al2
    go_wp2_with ((go_at_call 41; (with_reducible refine AC.out.mono ?_); rintro e w5 ⟨rfl, x5, hk5, ht5⟩))
    go_meet
    exact ⟨rfl, E, rfl, .inr ⟨HE.out, _, R, B, mk, mn, mk, i, C.q, B.q, TK, TN, TK, hk5, AF.out.less (by omega), fun _ => (AL.out B.q TK).1, (AL.out B.q TK).2⟩⟩

end Go.Proofs.Ytjihboddejaelaa
