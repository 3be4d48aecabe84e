/-
  The law PoolKept: acts 2, 3, 4.
-/
import Derived.Test.YtjihboddejaelaaPoolA0q
namespace Go.Proofs.Ytjihboddejaelaa
open Go.RowKit
open Go.BigFrame
open Go.Maps
attribute [local go_sem] OpGood goodUpon fillA Act.put
set_option linter.unusedVariables false
set_option linter.unusedSimpArgs false

set_option maxRecDepth 100000 in
set_option maxHeartbeats 100000000 in
theorem law_act2 (w W3 : World) (gd p xk xn xm z i nn pk mk mn fB : Nat) (hpk : pk = 2) (x : Bx) (P : Pl) (B C : Bk) (TK TN : Nat → Option ByteArray) (a : ActK) (S : ByteArray)
    (K3 : Hid (KP w W3 gd p x P xk xn xm mk mn mk i B.q C.q B.q TK TN TK)) (H3 : Hid (Has W3 z 45 #[.int .i64 a.kind, .int .i64 a.f, .int .i64 a.at_, .int .i64 a.n, .string a.s, .string a.t]))
    (S3 : Hid (St P B C TK TN fB (1 + 3 * i) (1 + i))) (F3 : Hid (Fit P.L.D ((250 - i) * 100000 + 90000))) (OKP : Hid P.ok) (SH : Hid (∀ w1 : World, Calls Try.prog 16 #[.int .i64 a.at_] w1 fun e w' => e = .returned (.string S) ∧ Below w1.heap.size w1 w'))
    (SZ : Hid (S.size = 1024)) (NN : Hid (1 ≤ nn ∧ nn ≤ 20)) (I1 : Hid (i < 250)) (HZX : Hid (z ≠ xm ∧ z ≠ xn ∧ z ≠ xk ∧ some z ∉ x.all p ∧ w.heap.size ≤ z))
    (u0 u1 u2 u3 u4 u5 u6 u7 u8 u9 u15 u16 u19 u20 u21 u22 u23 u24 u25 u26 u27 u28 u29 u30 u31 u32 u33 u34 u35 u36 u37 u38 u39 u40 u41 u42 u43 u44 u45 u46 u47 u48 u49 u51 u52 u53 u54 u55 u56 u57 u58 u59 u60 u62 u63 u64 u65 u66 u67 u68 u69 u70 u71 u72 u73 u74 u75 u76 u77 u78 u79 u80 u81 u82 u83 u84 u85 u86 u87 u88 u89 u90 u91 u92 u93 u94 u95 u96 u97 u98 u99 u100 u101 u102 u103 u104 u105 u106 u107 u108 u109 u110 u111 u112 u113 u114 u115 u116 u117 u118 u119 u120 u121 u122 u123 u124 u125 u126 u127 u128 u129 u130 u131 u132 u133 u134 u135 u136 u137 u138 u139 u140 u141 u142 u143 u144 u145 u146 u147 u148 u149 u150 u151 u152 u153 u154 u155 u156 u157 u158 u159 u160 u161 u162 u163 u164 u165 u166 u167 u168 u169 u170 u171 u172 u173 u174 u175 u176 u177 u178 u179 u180 u181 u182 u183 u184 u185 u186 u187 u188 u189 u190 u191 u192 u193 u194 u195 u196 u197 u198 u199 u200 u201 u202 u203 u204 u205 u206 u207 u208 u209 u210 u211 u212 u213 u214 u215 u216 : Value) (J K' K1 KI KJ : Act → World → Prop) (R : Ending → World → Prop)
    (hJ : ∀ (a' : Act) (w' : World), (∃ e11 e18 e19 e20 e21 e22 e50 e51 e52 e53 e54 e55 e56 e57 e58 e59 e60 e61 e62 e63 e64 e65 e66 e67 e68 e69 e70 e71 e72 e73 e74 e75 e76 e77 e78 e79 e80 e81 e82 e83 e84 e85 e86 e87 e88 e89 e90 e91 e92 e93 e94 e95 e96 e97 e98 e99 e100 e101 e102 e103 e104 e105 e106 e107 e108 e109 e110 e111 e112 e113 e114 e115 e116 e117 e118 e119 e120 e121 e122 e123 e124 e125 e126 e127 e128 e129 e130 e131 e132 e133 e134 e135 e136 e137 e138 e139 e140 e141 e142 e143 e144 e145 e146 e147 e148 e149 e150 e151 e152 e153 e154 e155 e156 e157 e158, (e50 = .int .i64 i ∧ ∃ E : Int, e11 = .int .i64 E ∧ MidP w w' gd p xk xn xm i E) ∧ a' = { tmps := #[u0, u1, u2, u3, u4, u5, u6, u7, u8, u9, ptrB p, e11, .pointer (some ⟨xk, 0, none⟩), ptrB xn, ptrB xm, u15, u16, .pointer (some ⟨z, 0, none⟩), e18, e19, e20, e21, e22, u23, u24, u25, u26, u27, u28, u29, u30, u31, u32, u33, u34, u35, u36, u37, u38, u39, u40, u41, u42, u43, u44, u45, u46, u47, u48, u49, e50, e51, e52, e53, e54, e55, e56, e57, e58, e59, e60, e61, e62, e63, e64, e65, e66, e67, e68, e69, e70, e71, e72, e73, e74, e75, e76, e77, e78, e79, e80, e81, e82, e83, e84, e85, e86, e87, e88, e89, e90, e91, e92, e93, e94, e95, e96, e97, e98, e99, e100, e101, e102, e103, e104, e105, e106, e107, e108, e109, e110, e111, e112, e113, e114, e115, e116, e117, e118, e119, e120, e121, e122, e123, e124, e125, e126, e127, e128, e129, e130, e131, e132, e133, e134, e135, e136, e137, e138, e139, e140, e141, e142, e143, e144, e145, e146, e147, e148, e149, e150, e151, e152, e153, e154, e155, e156, e157, e158, u159, u160, u161, u162, u163, u164, u165, u166, u167, u168, u169, u170, u171, u172, u173, u174, u175, u176, u177, u178, u179, u180, u181, u182, u183, u184, u185, u186, u187, u188, u189, u190, u191, u192, u193, u194, u195, u196, u197, u198, u199, u200, u201, u202, u203, u204, u205, u206, u207, u208, u209, u210, u211, u212, u213, u214, u215, u216], defers := [] }) → J a' w') (hK : ∀ (a' : Act) (w' : World), Met J a' w' → K' a' w') :
    Code.wp Try.prog (behind 1 (firstC (behind 3 (innerC (firstC (behind 2 (innerC (innerC (behind 1 (firstC (behind 9 (Try.f6.body.getD .skip)))))))))))) (Exit.then K' (Exit.inBlock 1 (Exit.then K1 (Exit.then KI (Exit.inBlock 0 (Exit.then KJ (bodyPost Try.prog Try.f6 R))))))) { tmps := #[u0, u1, u2, u3, u4, u5, u6, u7, u8, u9, ptrB p, .int .i64 0, .pointer (some ⟨xk, 0, none⟩), ptrB xn, ptrB xm, u15, u16, .pointer (some ⟨z, 0, none⟩), .int .i64 nn, u19, u20, u21, u22, u23, u24, u25, u26, u27, u28, u29, u30, u31, u32, u33, u34, u35, u36, u37, u38, u39, u40, u41, u42, u43, u44, u45, u46, u47, u48, u49, .int .i64 i, u51, u52, u53, u54, u55, u56, u57, u58, u59, u60, .int .i64 pk, u62, u63, u64, u65, u66, u67, u68, u69, u70, u71, u72, u73, u74, u75, u76, u77, u78, u79, u80, u81, u82, u83, u84, u85, u86, u87, u88, u89, u90, u91, u92, u93, u94, u95, u96, u97, u98, u99, u100, u101, u102, u103, u104, u105, u106, u107, u108, u109, u110, u111, u112, u113, u114, u115, u116, u117, u118, u119, u120, u121, u122, u123, u124, u125, u126, u127, u128, u129, u130, u131, u132, u133, u134, u135, u136, u137, u138, u139, u140, u141, u142, u143, u144, u145, u146, u147, u148, u149, u150, u151, u152, u153, u154, u155, u156, u157, u158, u159, u160, u161, u162, u163, u164, u165, u166, u167, u168, u169, u170, u171, u172, u173, u174, u175, u176, u177, u178, u179, u180, u181, u182, u183, u184, u185, u186, u187, u188, u189, u190, u191, u192, u193, u194, u195, u196, u197, u198, u199, u200, u201, u202, u203, u204, u205, u206, u207, u208, u209, u210, u211, u212, u213, u214, u215, u216], defers := [] } W3 := by
  conv =>
    arg 2
    simp only [Try.f6, Option.getD, behind, firstC, innerC]
  conv =>
    arg 4
    dsimp only
  dsimp only at hJ
  subst hpk
  rw [show ((2 : Nat) : Int) = 2 from rfl]
  have hrun := K3.out.n.map.look nn (wfI (by have := NN.out; omega) (by have := NN.out; omega))
  rw [lift_nat] at hrun
  have n1 : W3.cell? ⟨xn, 1, none⟩ = some (.map (some mn)) := K3.out.n.has.cell 1
  cases hTn : TN nn with
  | none =>
    rw [hTn] at hrun
    simp only [Option.getD, Option.isSome] at hrun
    clear hTn
    go_wp2_with fail
    go_meet
    exact ⟨rfl, 0, rfl, .inl ⟨rfl, x, P, B, C, mk, mn, mk, B.q, fB, TK, TN, TK, K3.out.mono (Nat.le_succ _), S3.out.more (by omega) (by omega), F3.out.less (by omega)⟩⟩
  | some u =>
    rw [hTn] at hrun
    simp only [Option.getD, Option.isSome] at hrun
    have TNN := Lib.hid hTn
    clear hTn
    obtain ⟨f0, f1, f2⟩ := st_write S3.out (by have := I1.out; omega) (by have := I1.out; omega) TNN.out SZ.out
    have FF := Lib.hid (write_fit (k := (250 - i) * 100000 + 10000) (F3.out.less (by omega)) nn S)
    have KF := Lib.hid (fun (w1 : World) (nb : Nat) (h1 : KP w w1 gd p x P xk xn xm mk nb mk (i + 1) B.q C.q B.q TK (setT TN nn S) TK) => kp_Write h1 OKP.out (F3.out.less (by omega)) nn (by have := NN.out; omega) S)
    have F1 := Lib.hid f1; have F2 := Lib.hid f2
    obtain ⟨R, hR⟩ : ∃ R, (P.write nn S).1 = R := ⟨_, rfl⟩
    obtain ⟨E, hE⟩ : ∃ E, (P.write nn S).2 = E := ⟨_, rfl⟩
    rw [hR, hE] at KF F1 F2
    rw [hR] at FF
    clear f0 f1 f2 hR hE
    have WT := Lib.hid (fun u (hb : Below W3.heap.size W3 u) => keep_with mn i (lift TN) nn S u (by have := I1.out; omega) (K3.out.n.map.below hb) (wfI (by have := NN.out; omega) (by have := NN.out; omega)) (by have := SZ.out; unfold maxLen; omega))
    rw [lift_set] at WT
    go_upto_region 28 with fail
    go_cut [50] from 50 to 158 (fun v50 wx => v50 = .int .i64 i ∧ ∃ nb : Nat, KP w wx gd p x P xk xn xm mk nb mk (i + 1) B.q C.q B.q TK (setT TN nn S) TK ∧ Has wx z 45 #[.int .i64 a.kind, .int .i64 a.f, .int .i64 a.at_, .int .i64 a.n, .string a.s, .string a.t])
    case first =>
      have z2 : W3.cell? ⟨z, 2, none⟩ = some (.int .i64 a.at_) := H3.out.cell 2
      have hxl := K3.out.n.has.lt
      go_region_with (first
        | (go_at_call 16; (with_reducible refine (SH.out _).mono ?_); rintro e wS ⟨rfl, hbS⟩; have HS := Lib.hid (bel_step (show Below W3.heap.size W3 _ by (repeat (first | exact Below.refl _ _ | refine Below.drew ?_))) hbS (Nat.le_refl _)); have nS : wS.cell? ⟨xn, 1, none⟩ = some (.map (some mn)) := (K3.out.below HS.out).n.has.cell 1; clear hbS)
        | (go_at_call 18; refine (WT.out _ (by (repeat (first | exact HS.out | refine Below.drew ?_)))).mono ?_; rintro e w6 ⟨nb, rfl, hms, hln, hb6⟩; have HW6 := Lib.hid (bel_step HS.out hb6 HS.out.size); have y1 : w6.cell? ⟨xn, 1, none⟩ = some (.map (some mn)) := (K3.out.below HW6.out).n.has.cell 1; have yf := (K3.out.below HW6.out).n.has.frozen; have K6 := Lib.hid (((K3.out.below HW6.out).mono (Nat.le_succ _)).storeN1 hms (fun h2 => by have := PM.lt K3.out.pm _ h2; have := HS.out.size; omega) (by have := K3.out.bel.size; have := HS.out.size; omega)); have H6 := Lib.hid ((H3.out.belowS HW6.out).turn (Turn.set xn [] 1 (.map (some nb)) w6) (by simpa [blks] using HZX.out.2.1)); clear hms hln hb6))
      all_goals (go_wp2_with fail; go_meet; exact ⟨rfl, nb, K6.out, H6.out⟩)
    case rest =>
      obtain ⟨rfl, nb, hk7, hh7⟩ := hcut
      have K7 := Lib.hid hk7
      have z2 : wc.cell? ⟨z, 2, none⟩ = some (.int .i64 a.at_) := hh7.cell 2
      clear hk7 hh7 WT hrun n1 K3 H3
      generalize wc = W7 at *
      go_wp2_with (first
        | (go_at_call 16; (with_reducible refine (SH.out _).mono ?_); rintro e w8 ⟨rfl, hb8⟩; have K8 := Lib.hid (K7.out.below hb8); clear hb8)
        | (go_at_call 42; (with_reducible refine (KF.out _ _ K8.out).mono ?_); rintro e w9 ⟨rfl, x9, hk9, ht9⟩))
      go_meet
      refine ⟨rfl, E, rfl, ?_⟩
      by_cases e0 : E = 0
      · exact .inl ⟨e0, _, R, B, C.put nn S, mk, nb, mk, B.q, fB, TK, _, TK, hk9, (F1.out e0).more (by omega) (by omega), FF.out.less (by omega)⟩
      · exact .inr ⟨e0, _, R, B, mk, nb, mk, i + 1, C.q, B.q, TK, _, TK, hk9, FF.out.less (by omega), fun _ => (F2.out e0 B.q TK).1, (F2.out e0 B.q TK).2⟩
set_option maxRecDepth 100000 in
set_option maxHeartbeats 100000000 in
theorem law_act3 (w W3 : World) (gd p xk xn xm z i nn pk mk mn fB : Nat) (hpk : pk = 3) (x : Bx) (P : Pl) (B C : Bk) (TK TN : Nat → Option ByteArray) (a : ActK) (S : ByteArray)
    (K3 : Hid (KP w W3 gd p x P xk xn xm mk mn mk i B.q C.q B.q TK TN TK)) (H3 : Hid (Has W3 z 45 #[.int .i64 a.kind, .int .i64 a.f, .int .i64 a.at_, .int .i64 a.n, .string a.s, .string a.t]))
    (S3 : Hid (St P B C TK TN fB (1 + 3 * i) (1 + i))) (F3 : Hid (Fit P.L.D ((250 - i) * 100000 + 90000))) (OKP : Hid P.ok) (SH : Hid (∀ w1 : World, Calls Try.prog 16 #[.int .i64 a.at_] w1 fun e w' => e = .returned (.string S) ∧ Below w1.heap.size w1 w'))
    (SZ : Hid (S.size = 1024)) (NN : Hid (1 ≤ nn ∧ nn ≤ 20)) (I1 : Hid (i < 250)) (HZX : Hid (z ≠ xm ∧ z ≠ xn ∧ z ≠ xk ∧ some z ∉ x.all p ∧ w.heap.size ≤ z))
    (u0 u1 u2 u3 u4 u5 u6 u7 u8 u9 u15 u16 u19 u20 u21 u22 u23 u24 u25 u26 u27 u28 u29 u30 u31 u32 u33 u34 u35 u36 u37 u38 u39 u40 u41 u42 u43 u44 u45 u46 u47 u48 u49 u51 u52 u53 u54 u55 u56 u57 u58 u59 u60 u62 u63 u64 u65 u66 u67 u68 u69 u70 u71 u72 u73 u74 u75 u76 u77 u78 u79 u80 u81 u82 u83 u84 u85 u86 u87 u88 u89 u90 u91 u92 u93 u94 u95 u96 u97 u98 u99 u100 u101 u102 u103 u104 u105 u106 u107 u108 u109 u110 u111 u112 u113 u114 u115 u116 u117 u118 u119 u120 u121 u122 u123 u124 u125 u126 u127 u128 u129 u130 u131 u132 u133 u134 u135 u136 u137 u138 u139 u140 u141 u142 u143 u144 u145 u146 u147 u148 u149 u150 u151 u152 u153 u154 u155 u156 u157 u158 u159 u160 u161 u162 u163 u164 u165 u166 u167 u168 u169 u170 u171 u172 u173 u174 u175 u176 u177 u178 u179 u180 u181 u182 u183 u184 u185 u186 u187 u188 u189 u190 u191 u192 u193 u194 u195 u196 u197 u198 u199 u200 u201 u202 u203 u204 u205 u206 u207 u208 u209 u210 u211 u212 u213 u214 u215 u216 : Value) (J K' K1 KI KJ : Act → World → Prop) (R : Ending → World → Prop)
    (hJ : ∀ (a' : Act) (w' : World), (∃ e11 e18 e19 e20 e21 e22 e50 e51 e52 e53 e54 e55 e56 e57 e58 e59 e60 e61 e62 e63 e64 e65 e66 e67 e68 e69 e70 e71 e72 e73 e74 e75 e76 e77 e78 e79 e80 e81 e82 e83 e84 e85 e86 e87 e88 e89 e90 e91 e92 e93 e94 e95 e96 e97 e98 e99 e100 e101 e102 e103 e104 e105 e106 e107 e108 e109 e110 e111 e112 e113 e114 e115 e116 e117 e118 e119 e120 e121 e122 e123 e124 e125 e126 e127 e128 e129 e130 e131 e132 e133 e134 e135 e136 e137 e138 e139 e140 e141 e142 e143 e144 e145 e146 e147 e148 e149 e150 e151 e152 e153 e154 e155 e156 e157 e158, (e50 = .int .i64 i ∧ ∃ E : Int, e11 = .int .i64 E ∧ MidP w w' gd p xk xn xm i E) ∧ a' = { tmps := #[u0, u1, u2, u3, u4, u5, u6, u7, u8, u9, ptrB p, e11, .pointer (some ⟨xk, 0, none⟩), ptrB xn, ptrB xm, u15, u16, .pointer (some ⟨z, 0, none⟩), e18, e19, e20, e21, e22, u23, u24, u25, u26, u27, u28, u29, u30, u31, u32, u33, u34, u35, u36, u37, u38, u39, u40, u41, u42, u43, u44, u45, u46, u47, u48, u49, e50, e51, e52, e53, e54, e55, e56, e57, e58, e59, e60, e61, e62, e63, e64, e65, e66, e67, e68, e69, e70, e71, e72, e73, e74, e75, e76, e77, e78, e79, e80, e81, e82, e83, e84, e85, e86, e87, e88, e89, e90, e91, e92, e93, e94, e95, e96, e97, e98, e99, e100, e101, e102, e103, e104, e105, e106, e107, e108, e109, e110, e111, e112, e113, e114, e115, e116, e117, e118, e119, e120, e121, e122, e123, e124, e125, e126, e127, e128, e129, e130, e131, e132, e133, e134, e135, e136, e137, e138, e139, e140, e141, e142, e143, e144, e145, e146, e147, e148, e149, e150, e151, e152, e153, e154, e155, e156, e157, e158, u159, u160, u161, u162, u163, u164, u165, u166, u167, u168, u169, u170, u171, u172, u173, u174, u175, u176, u177, u178, u179, u180, u181, u182, u183, u184, u185, u186, u187, u188, u189, u190, u191, u192, u193, u194, u195, u196, u197, u198, u199, u200, u201, u202, u203, u204, u205, u206, u207, u208, u209, u210, u211, u212, u213, u214, u215, u216], defers := [] }) → J a' w') (hK : ∀ (a' : Act) (w' : World), Met J a' w' → K' a' w') :
    Code.wp Try.prog (behind 1 (firstC (behind 3 (innerC (firstC (behind 2 (innerC (innerC (behind 1 (firstC (behind 9 (Try.f6.body.getD .skip)))))))))))) (Exit.then K' (Exit.inBlock 1 (Exit.then K1 (Exit.then KI (Exit.inBlock 0 (Exit.then KJ (bodyPost Try.prog Try.f6 R))))))) { tmps := #[u0, u1, u2, u3, u4, u5, u6, u7, u8, u9, ptrB p, .int .i64 0, .pointer (some ⟨xk, 0, none⟩), ptrB xn, ptrB xm, u15, u16, .pointer (some ⟨z, 0, none⟩), .int .i64 nn, u19, u20, u21, u22, u23, u24, u25, u26, u27, u28, u29, u30, u31, u32, u33, u34, u35, u36, u37, u38, u39, u40, u41, u42, u43, u44, u45, u46, u47, u48, u49, .int .i64 i, u51, u52, u53, u54, u55, u56, u57, u58, u59, u60, .int .i64 pk, u62, u63, u64, u65, u66, u67, u68, u69, u70, u71, u72, u73, u74, u75, u76, u77, u78, u79, u80, u81, u82, u83, u84, u85, u86, u87, u88, u89, u90, u91, u92, u93, u94, u95, u96, u97, u98, u99, u100, u101, u102, u103, u104, u105, u106, u107, u108, u109, u110, u111, u112, u113, u114, u115, u116, u117, u118, u119, u120, u121, u122, u123, u124, u125, u126, u127, u128, u129, u130, u131, u132, u133, u134, u135, u136, u137, u138, u139, u140, u141, u142, u143, u144, u145, u146, u147, u148, u149, u150, u151, u152, u153, u154, u155, u156, u157, u158, u159, u160, u161, u162, u163, u164, u165, u166, u167, u168, u169, u170, u171, u172, u173, u174, u175, u176, u177, u178, u179, u180, u181, u182, u183, u184, u185, u186, u187, u188, u189, u190, u191, u192, u193, u194, u195, u196, u197, u198, u199, u200, u201, u202, u203, u204, u205, u206, u207, u208, u209, u210, u211, u212, u213, u214, u215, u216], defers := [] } W3 := by
  conv =>
    arg 2
    simp only [Try.f6, Option.getD, behind, firstC, innerC]
  conv =>
    arg 4
    dsimp only
  dsimp only at hJ
  subst hpk
  rw [show ((3 : Nat) : Int) = 3 from rfl]
  have hrun := K3.out.n.map.look nn (wfI (by have := NN.out; omega) (by have := NN.out; omega))
  rw [lift_nat] at hrun
  have n1 : W3.cell? ⟨xn, 1, none⟩ = some (.map (some mn)) := K3.out.n.has.cell 1
  cases hTn : TN nn with
  | none =>
    rw [hTn] at hrun
    simp only [Option.getD, Option.isSome] at hrun
    clear hTn
    go_wp2_with fail
    go_meet
    exact ⟨rfl, 0, rfl, .inl ⟨rfl, x, P, B, C, mk, mn, mk, B.q, fB, TK, TN, TK, K3.out.mono (Nat.le_succ _), S3.out.more (by omega) (by omega), F3.out.less (by omega)⟩⟩
  | some u =>
    rw [hTn] at hrun
    simp only [Option.getD, Option.isSome] at hrun
    have TNN := Lib.hid hTn
    clear hTn
    obtain ⟨f0, f1, f2⟩ := st_write S3.out (by have := I1.out; omega) (by have := I1.out; omega) TNN.out SZ.out
    have FF := Lib.hid (write_fit (k := (250 - i) * 100000 + 10000) (F3.out.less (by omega)) nn S)
    have KF := Lib.hid (fun (w1 : World) (nb : Nat) (h1 : KP w w1 gd p x P xk xn xm mk nb mk (i + 1) B.q C.q B.q TK (setT TN nn S) TK) => kp_Write h1 OKP.out (F3.out.less (by omega)) nn (by have := NN.out; omega) S)
    have F1 := Lib.hid f1; have F2 := Lib.hid f2
    obtain ⟨R, hR⟩ : ∃ R, (P.write nn S).1 = R := ⟨_, rfl⟩
    obtain ⟨E, hE⟩ : ∃ E, (P.write nn S).2 = E := ⟨_, rfl⟩
    rw [hR, hE] at KF F1 F2
    rw [hR] at FF
    clear f0 f1 f2 hR hE
    have WT := Lib.hid (fun u (hb : Below W3.heap.size W3 u) => keep_with mn i (lift TN) nn S u (by have := I1.out; omega) (K3.out.n.map.below hb) (wfI (by have := NN.out; omega) (by have := NN.out; omega)) (by have := SZ.out; unfold maxLen; omega))
    rw [lift_set] at WT
    go_upto_region 28 with fail
    go_cut [50] from 50 to 158 (fun v50 wx => v50 = .int .i64 i ∧ ∃ nb : Nat, KP w wx gd p x P xk xn xm mk nb mk (i + 1) B.q C.q B.q TK (setT TN nn S) TK ∧ Has wx z 45 #[.int .i64 a.kind, .int .i64 a.f, .int .i64 a.at_, .int .i64 a.n, .string a.s, .string a.t])
    case first =>
      have z2 : W3.cell? ⟨z, 2, none⟩ = some (.int .i64 a.at_) := H3.out.cell 2
      have hxl := K3.out.n.has.lt
      go_region_with (first
        | (go_at_call 16; (with_reducible refine (SH.out _).mono ?_); rintro e wS ⟨rfl, hbS⟩; have HS := Lib.hid (bel_step (show Below W3.heap.size W3 _ by (repeat (first | exact Below.refl _ _ | refine Below.drew ?_))) hbS (Nat.le_refl _)); have nS : wS.cell? ⟨xn, 1, none⟩ = some (.map (some mn)) := (K3.out.below HS.out).n.has.cell 1; clear hbS)
        | (go_at_call 18; refine (WT.out _ (by (repeat (first | exact HS.out | refine Below.drew ?_)))).mono ?_; rintro e w6 ⟨nb, rfl, hms, hln, hb6⟩; have HW6 := Lib.hid (bel_step HS.out hb6 HS.out.size); have y1 : w6.cell? ⟨xn, 1, none⟩ = some (.map (some mn)) := (K3.out.below HW6.out).n.has.cell 1; have yf := (K3.out.below HW6.out).n.has.frozen; have K6 := Lib.hid (((K3.out.below HW6.out).mono (Nat.le_succ _)).storeN1 hms (fun h2 => by have := PM.lt K3.out.pm _ h2; have := HS.out.size; omega) (by have := K3.out.bel.size; have := HS.out.size; omega)); have H6 := Lib.hid ((H3.out.belowS HW6.out).turn (Turn.set xn [] 1 (.map (some nb)) w6) (by simpa [blks] using HZX.out.2.1)); clear hms hln hb6))
      all_goals (go_wp2_with fail; go_meet; exact ⟨rfl, nb, K6.out, H6.out⟩)
    case rest =>
      obtain ⟨rfl, nb, hk7, hh7⟩ := hcut
      have K7 := Lib.hid hk7
      have z2 : wc.cell? ⟨z, 2, none⟩ = some (.int .i64 a.at_) := hh7.cell 2
      clear hk7 hh7 WT hrun n1 K3 H3
      generalize wc = W7 at *
      go_wp2_with (first
        | (go_at_call 16; (with_reducible refine (SH.out _).mono ?_); rintro e w8 ⟨rfl, hb8⟩; have K8 := Lib.hid (K7.out.below hb8); clear hb8)
        | (go_at_call 42; (with_reducible refine (KF.out _ _ K8.out).mono ?_); rintro e w9 ⟨rfl, x9, hk9, ht9⟩))
      go_meet
      refine ⟨rfl, E, rfl, ?_⟩
      by_cases e0 : E = 0
      · exact .inl ⟨e0, _, R, B, C.put nn S, mk, nb, mk, B.q, fB, TK, _, TK, hk9, (F1.out e0).more (by omega) (by omega), FF.out.less (by omega)⟩
      · exact .inr ⟨e0, _, R, B, mk, nb, mk, i + 1, C.q, B.q, TK, _, TK, hk9, FF.out.less (by omega), fun _ => (F2.out e0 B.q TK).1, (F2.out e0 B.q TK).2⟩
set_option maxRecDepth 100000 in
set_option maxHeartbeats 100000000 in
theorem law_act4 (w W3 : World) (gd p xk xn xm z i nn pk mk mn fB : Nat) (hpk : pk = 4) (x : Bx) (P : Pl) (B C : Bk) (TK TN : Nat → Option ByteArray) (a : ActK) (S : ByteArray)
    (K3 : Hid (KP w W3 gd p x P xk xn xm mk mn mk i B.q C.q B.q TK TN TK)) (H3 : Hid (Has W3 z 45 #[.int .i64 a.kind, .int .i64 a.f, .int .i64 a.at_, .int .i64 a.n, .string a.s, .string a.t]))
    (S3 : Hid (St P B C TK TN fB (1 + 3 * i) (1 + i))) (F3 : Hid (Fit P.L.D ((250 - i) * 100000 + 90000))) (OKP : Hid P.ok) (SH : Hid (∀ w1 : World, Calls Try.prog 16 #[.int .i64 a.at_] w1 fun e w' => e = .returned (.string S) ∧ Below w1.heap.size w1 w'))
    (SZ : Hid (S.size = 1024)) (NN : Hid (1 ≤ nn ∧ nn ≤ 20)) (I1 : Hid (i < 250)) (HZX : Hid (z ≠ xm ∧ z ≠ xn ∧ z ≠ xk ∧ some z ∉ x.all p ∧ w.heap.size ≤ z))
    (u0 u1 u2 u3 u4 u5 u6 u7 u8 u9 u15 u16 u19 u20 u21 u22 u23 u24 u25 u26 u27 u28 u29 u30 u31 u32 u33 u34 u35 u36 u37 u38 u39 u40 u41 u42 u43 u44 u45 u46 u47 u48 u49 u51 u52 u53 u54 u55 u56 u57 u58 u59 u60 u62 u63 u64 u65 u66 u67 u68 u69 u70 u71 u72 u73 u74 u75 u76 u77 u78 u79 u80 u81 u82 u83 u84 u85 u86 u87 u88 u89 u90 u91 u92 u93 u94 u95 u96 u97 u98 u99 u100 u101 u102 u103 u104 u105 u106 u107 u108 u109 u110 u111 u112 u113 u114 u115 u116 u117 u118 u119 u120 u121 u122 u123 u124 u125 u126 u127 u128 u129 u130 u131 u132 u133 u134 u135 u136 u137 u138 u139 u140 u141 u142 u143 u144 u145 u146 u147 u148 u149 u150 u151 u152 u153 u154 u155 u156 u157 u158 u159 u160 u161 u162 u163 u164 u165 u166 u167 u168 u169 u170 u171 u172 u173 u174 u175 u176 u177 u178 u179 u180 u181 u182 u183 u184 u185 u186 u187 u188 u189 u190 u191 u192 u193 u194 u195 u196 u197 u198 u199 u200 u201 u202 u203 u204 u205 u206 u207 u208 u209 u210 u211 u212 u213 u214 u215 u216 : Value) (J K' K1 KI KJ : Act → World → Prop) (R : Ending → World → Prop)
    (hJ : ∀ (a' : Act) (w' : World), (∃ e11 e18 e19 e20 e21 e22 e50 e51 e52 e53 e54 e55 e56 e57 e58 e59 e60 e61 e62 e63 e64 e65 e66 e67 e68 e69 e70 e71 e72 e73 e74 e75 e76 e77 e78 e79 e80 e81 e82 e83 e84 e85 e86 e87 e88 e89 e90 e91 e92 e93 e94 e95 e96 e97 e98 e99 e100 e101 e102 e103 e104 e105 e106 e107 e108 e109 e110 e111 e112 e113 e114 e115 e116 e117 e118 e119 e120 e121 e122 e123 e124 e125 e126 e127 e128 e129 e130 e131 e132 e133 e134 e135 e136 e137 e138 e139 e140 e141 e142 e143 e144 e145 e146 e147 e148 e149 e150 e151 e152 e153 e154 e155 e156 e157 e158, (e50 = .int .i64 i ∧ ∃ E : Int, e11 = .int .i64 E ∧ MidP w w' gd p xk xn xm i E) ∧ a' = { tmps := #[u0, u1, u2, u3, u4, u5, u6, u7, u8, u9, ptrB p, e11, .pointer (some ⟨xk, 0, none⟩), ptrB xn, ptrB xm, u15, u16, .pointer (some ⟨z, 0, none⟩), e18, e19, e20, e21, e22, u23, u24, u25, u26, u27, u28, u29, u30, u31, u32, u33, u34, u35, u36, u37, u38, u39, u40, u41, u42, u43, u44, u45, u46, u47, u48, u49, e50, e51, e52, e53, e54, e55, e56, e57, e58, e59, e60, e61, e62, e63, e64, e65, e66, e67, e68, e69, e70, e71, e72, e73, e74, e75, e76, e77, e78, e79, e80, e81, e82, e83, e84, e85, e86, e87, e88, e89, e90, e91, e92, e93, e94, e95, e96, e97, e98, e99, e100, e101, e102, e103, e104, e105, e106, e107, e108, e109, e110, e111, e112, e113, e114, e115, e116, e117, e118, e119, e120, e121, e122, e123, e124, e125, e126, e127, e128, e129, e130, e131, e132, e133, e134, e135, e136, e137, e138, e139, e140, e141, e142, e143, e144, e145, e146, e147, e148, e149, e150, e151, e152, e153, e154, e155, e156, e157, e158, u159, u160, u161, u162, u163, u164, u165, u166, u167, u168, u169, u170, u171, u172, u173, u174, u175, u176, u177, u178, u179, u180, u181, u182, u183, u184, u185, u186, u187, u188, u189, u190, u191, u192, u193, u194, u195, u196, u197, u198, u199, u200, u201, u202, u203, u204, u205, u206, u207, u208, u209, u210, u211, u212, u213, u214, u215, u216], defers := [] }) → J a' w') (hK : ∀ (a' : Act) (w' : World), Met J a' w' → K' a' w') :
    Code.wp Try.prog (behind 1 (firstC (behind 3 (innerC (firstC (behind 2 (innerC (innerC (behind 1 (firstC (behind 9 (Try.f6.body.getD .skip)))))))))))) (Exit.then K' (Exit.inBlock 1 (Exit.then K1 (Exit.then KI (Exit.inBlock 0 (Exit.then KJ (bodyPost Try.prog Try.f6 R))))))) { tmps := #[u0, u1, u2, u3, u4, u5, u6, u7, u8, u9, ptrB p, .int .i64 0, .pointer (some ⟨xk, 0, none⟩), ptrB xn, ptrB xm, u15, u16, .pointer (some ⟨z, 0, none⟩), .int .i64 nn, u19, u20, u21, u22, u23, u24, u25, u26, u27, u28, u29, u30, u31, u32, u33, u34, u35, u36, u37, u38, u39, u40, u41, u42, u43, u44, u45, u46, u47, u48, u49, .int .i64 i, u51, u52, u53, u54, u55, u56, u57, u58, u59, u60, .int .i64 pk, u62, u63, u64, u65, u66, u67, u68, u69, u70, u71, u72, u73, u74, u75, u76, u77, u78, u79, u80, u81, u82, u83, u84, u85, u86, u87, u88, u89, u90, u91, u92, u93, u94, u95, u96, u97, u98, u99, u100, u101, u102, u103, u104, u105, u106, u107, u108, u109, u110, u111, u112, u113, u114, u115, u116, u117, u118, u119, u120, u121, u122, u123, u124, u125, u126, u127, u128, u129, u130, u131, u132, u133, u134, u135, u136, u137, u138, u139, u140, u141, u142, u143, u144, u145, u146, u147, u148, u149, u150, u151, u152, u153, u154, u155, u156, u157, u158, u159, u160, u161, u162, u163, u164, u165, u166, u167, u168, u169, u170, u171, u172, u173, u174, u175, u176, u177, u178, u179, u180, u181, u182, u183, u184, u185, u186, u187, u188, u189, u190, u191, u192, u193, u194, u195, u196, u197, u198, u199, u200, u201, u202, u203, u204, u205, u206, u207, u208, u209, u210, u211, u212, u213, u214, u215, u216], defers := [] } W3 := by
  conv =>
    arg 2
    simp only [Try.f6, Option.getD, behind, firstC, innerC]
  conv =>
    arg 4
    dsimp only
  dsimp only at hJ
  subst hpk
  rw [show ((4 : Nat) : Int) = 4 from rfl]
  have hrun := K3.out.n.map.look nn (wfI (by have := NN.out; omega) (by have := NN.out; omega))
  rw [lift_nat] at hrun
  have n1 : W3.cell? ⟨xn, 1, none⟩ = some (.map (some mn)) := K3.out.n.has.cell 1
  cases hTn : TN nn with
  | none =>
    rw [hTn] at hrun
    simp only [Option.getD, Option.isSome] at hrun
    clear hTn
    go_wp2_with fail
    go_meet
    exact ⟨rfl, 0, rfl, .inl ⟨rfl, x, P, B, C, mk, mn, mk, B.q, fB, TK, TN, TK, K3.out.mono (Nat.le_succ _), S3.out.more (by omega) (by omega), F3.out.less (by omega)⟩⟩
  | some u =>
    rw [hTn] at hrun
    simp only [Option.getD, Option.isSome] at hrun
    have TNN := Lib.hid hTn
    clear hTn
    obtain ⟨f0, f1, f2⟩ := st_write S3.out (by have := I1.out; omega) (by have := I1.out; omega) TNN.out SZ.out
    have FF := Lib.hid (write_fit (k := (250 - i) * 100000 + 10000) (F3.out.less (by omega)) nn S)
    have KF := Lib.hid (fun (w1 : World) (nb : Nat) (h1 : KP w w1 gd p x P xk xn xm mk nb mk (i + 1) B.q C.q B.q TK (setT TN nn S) TK) => kp_Write h1 OKP.out (F3.out.less (by omega)) nn (by have := NN.out; omega) S)
    have F1 := Lib.hid f1; have F2 := Lib.hid f2
    obtain ⟨R, hR⟩ : ∃ R, (P.write nn S).1 = R := ⟨_, rfl⟩
    obtain ⟨E, hE⟩ : ∃ E, (P.write nn S).2 = E := ⟨_, rfl⟩
    rw [hR, hE] at KF F1 F2
    rw [hR] at FF
    clear f0 f1 f2 hR hE
    have WT := Lib.hid (fun u (hb : Below W3.heap.size W3 u) => keep_with mn i (lift TN) nn S u (by have := I1.out; omega) (K3.out.n.map.below hb) (wfI (by have := NN.out; omega) (by have := NN.out; omega)) (by have := SZ.out; unfold maxLen; omega))
    rw [lift_set] at WT
    go_upto_region 28 with fail
    go_cut [50] from 50 to 158 (fun v50 wx => v50 = .int .i64 i ∧ ∃ nb : Nat, KP w wx gd p x P xk xn xm mk nb mk (i + 1) B.q C.q B.q TK (setT TN nn S) TK ∧ Has wx z 45 #[.int .i64 a.kind, .int .i64 a.f, .int .i64 a.at_, .int .i64 a.n, .string a.s, .string a.t])
    case first =>
      have z2 : W3.cell? ⟨z, 2, none⟩ = some (.int .i64 a.at_) := H3.out.cell 2
      have hxl := K3.out.n.has.lt
      go_region_with (first
        | (go_at_call 16; (with_reducible refine (SH.out _).mono ?_); rintro e wS ⟨rfl, hbS⟩; have HS := Lib.hid (bel_step (show Below W3.heap.size W3 _ by (repeat (first | exact Below.refl _ _ | refine Below.drew ?_))) hbS (Nat.le_refl _)); have nS : wS.cell? ⟨xn, 1, none⟩ = some (.map (some mn)) := (K3.out.below HS.out).n.has.cell 1; clear hbS)
        | (go_at_call 18; refine (WT.out _ (by (repeat (first | exact HS.out | refine Below.drew ?_)))).mono ?_; rintro e w6 ⟨nb, rfl, hms, hln, hb6⟩; have HW6 := Lib.hid (bel_step HS.out hb6 HS.out.size); have y1 : w6.cell? ⟨xn, 1, none⟩ = some (.map (some mn)) := (K3.out.below HW6.out).n.has.cell 1; have yf := (K3.out.below HW6.out).n.has.frozen; have K6 := Lib.hid (((K3.out.below HW6.out).mono (Nat.le_succ _)).storeN1 hms (fun h2 => by have := PM.lt K3.out.pm _ h2; have := HS.out.size; omega) (by have := K3.out.bel.size; have := HS.out.size; omega)); have H6 := Lib.hid ((H3.out.belowS HW6.out).turn (Turn.set xn [] 1 (.map (some nb)) w6) (by simpa [blks] using HZX.out.2.1)); clear hms hln hb6))
      all_goals (go_wp2_with fail; go_meet; exact ⟨rfl, nb, K6.out, H6.out⟩)
    case rest =>
      obtain ⟨rfl, nb, hk7, hh7⟩ := hcut
      have K7 := Lib.hid hk7
      have z2 : wc.cell? ⟨z, 2, none⟩ = some (.int .i64 a.at_) := hh7.cell 2
      clear hk7 hh7 WT hrun n1 K3 H3
      generalize wc = W7 at *
      go_wp2_with (first
        | (go_at_call 16; (with_reducible refine (SH.out _).mono ?_); rintro e w8 ⟨rfl, hb8⟩; have K8 := Lib.hid (K7.out.below hb8); clear hb8)
        | (go_at_call 42; (with_reducible refine (KF.out _ _ K8.out).mono ?_); rintro e w9 ⟨rfl, x9, hk9, ht9⟩))
      go_meet
      refine ⟨rfl, E, rfl, ?_⟩
      by_cases e0 : E = 0
      · exact .inl ⟨e0, _, R, B, C.put nn S, mk, nb, mk, B.q, fB, TK, _, TK, hk9, (F1.out e0).more (by omega) (by omega), FF.out.less (by omega)⟩
      · exact .inr ⟨e0, _, R, B, mk, nb, mk, i + 1, C.q, B.q, TK, _, TK, hk9, FF.out.less (by omega), fun _ => (F2.out e0 B.q TK).1, (F2.out e0 B.q TK).2⟩

end Go.Proofs.Ytjihboddejaelaa
