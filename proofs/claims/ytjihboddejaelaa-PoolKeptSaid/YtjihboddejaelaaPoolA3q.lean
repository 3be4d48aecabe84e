/-
  The law PoolKept: acts 5, 6, 7.
-/
import Derived.Test.YtjihboddejaelaaPoolA0q
namespace Go.Proofs.Ytjihboddejaelaa
open Go.RowKit
open Go.BigFrame
open Go.Maps
attribute [local go_sem] OpGood goodUpon fillA Act.put
set_option linter.unusedVariables false
set_option linter.unusedSimpArgs false

set_option maxRecDepth 100000 in
set_option maxHeartbeats 100000000 in
theorem law_act5 (w W3 : World) (gd p xk xn xm z i nn pk mk mn fB : Nat) (hpk : pk = 5) (x : Bx) (P : Pl) (B C : Bk) (TK TN : Nat → Option ByteArray) (a : ActK) (S : ByteArray)
    (K3 : Hid (KP w W3 gd p x P xk xn xm mk mn mk i B.q C.q B.q TK TN TK)) (H3 : Hid (Has W3 z 45 #[.int .i64 a.kind, .int .i64 a.f, .int .i64 a.at_, .int .i64 a.n, .string a.s, .string a.t]))
    (S3 : Hid (St P B C TK TN fB (1 + 3 * i) (1 + i))) (F3 : Hid (Fit P.L.D ((250 - i) * 100000 + 90000))) (OKP : Hid P.ok) (SH : Hid (∀ w1 : World, Calls Try.prog 16 #[.int .i64 a.at_] w1 fun e w' => e = .returned (.string S) ∧ Below w1.heap.size w1 w'))
    (SZ : Hid (S.size = 1024)) (NN : Hid (1 ≤ nn ∧ nn ≤ 20)) (I1 : Hid (i < 250)) (HZX : Hid (z ≠ xm ∧ z ≠ xn ∧ z ≠ xk ∧ some z ∉ x.all p ∧ w.heap.size ≤ z))
    (u0 u1 u2 u3 u4 u5 u6 u7 u8 u9 u15 u16 u19 u20 u21 u22 u23 u24 u25 u26 u27 u28 u29 u30 u31 u32 u33 u34 u35 u36 u37 u38 u39 u40 u41 u42 u43 u44 u45 u46 u47 u48 u49 u51 u52 u53 u54 u55 u56 u57 u58 u59 u60 u62 u63 u64 u65 u66 u67 u68 u69 u70 u71 u72 u73 u74 u75 u76 u77 u78 u79 u80 u81 u82 u83 u84 u85 u86 u87 u88 u89 u90 u91 u92 u93 u94 u95 u96 u97 u98 u99 u100 u101 u102 u103 u104 u105 u106 u107 u108 u109 u110 u111 u112 u113 u114 u115 u116 u117 u118 u119 u120 u121 u122 u123 u124 u125 u126 u127 u128 u129 u130 u131 u132 u133 u134 u135 u136 u137 u138 u139 u140 u141 u142 u143 u144 u145 u146 u147 u148 u149 u150 u151 u152 u153 u154 u155 u156 u157 u158 u159 u160 u161 u162 u163 u164 u165 u166 u167 u168 u169 u170 u171 u172 u173 u174 u175 u176 u177 u178 u179 u180 u181 u182 u183 u184 u185 u186 u187 u188 u189 u190 u191 u192 u193 u194 u195 u196 u197 u198 u199 u200 u201 u202 u203 u204 u205 u206 u207 u208 u209 u210 u211 u212 u213 u214 u215 u216 : Value) (J K' K1 KI KJ : Act → World → Prop) (R : Ending → World → Prop)
    (hJ : ∀ (a' : Act) (w' : World), (∃ e11 e18 e19 e20 e21 e22 e50 e51 e52 e53 e54 e55 e56 e57 e58 e59 e60 e61 e62 e63 e64 e65 e66 e67 e68 e69 e70 e71 e72 e73 e74 e75 e76 e77 e78 e79 e80 e81 e82 e83 e84 e85 e86 e87 e88 e89 e90 e91 e92 e93 e94 e95 e96 e97 e98 e99 e100 e101 e102 e103 e104 e105 e106 e107 e108 e109 e110 e111 e112 e113 e114 e115 e116 e117 e118 e119 e120 e121 e122 e123 e124 e125 e126 e127 e128 e129 e130 e131 e132 e133 e134 e135 e136 e137 e138 e139 e140 e141 e142 e143 e144 e145 e146 e147 e148 e149 e150 e151 e152 e153 e154 e155 e156 e157 e158, (e50 = .int .i64 i ∧ ∃ E : Int, e11 = .int .i64 E ∧ MidP w w' gd p xk xn xm i E) ∧ a' = { tmps := #[u0, u1, u2, u3, u4, u5, u6, u7, u8, u9, ptrB p, e11, .pointer (some ⟨xk, 0, none⟩), ptrB xn, ptrB xm, u15, u16, .pointer (some ⟨z, 0, none⟩), e18, e19, e20, e21, e22, u23, u24, u25, u26, u27, u28, u29, u30, u31, u32, u33, u34, u35, u36, u37, u38, u39, u40, u41, u42, u43, u44, u45, u46, u47, u48, u49, e50, e51, e52, e53, e54, e55, e56, e57, e58, e59, e60, e61, e62, e63, e64, e65, e66, e67, e68, e69, e70, e71, e72, e73, e74, e75, e76, e77, e78, e79, e80, e81, e82, e83, e84, e85, e86, e87, e88, e89, e90, e91, e92, e93, e94, e95, e96, e97, e98, e99, e100, e101, e102, e103, e104, e105, e106, e107, e108, e109, e110, e111, e112, e113, e114, e115, e116, e117, e118, e119, e120, e121, e122, e123, e124, e125, e126, e127, e128, e129, e130, e131, e132, e133, e134, e135, e136, e137, e138, e139, e140, e141, e142, e143, e144, e145, e146, e147, e148, e149, e150, e151, e152, e153, e154, e155, e156, e157, e158, u159, u160, u161, u162, u163, u164, u165, u166, u167, u168, u169, u170, u171, u172, u173, u174, u175, u176, u177, u178, u179, u180, u181, u182, u183, u184, u185, u186, u187, u188, u189, u190, u191, u192, u193, u194, u195, u196, u197, u198, u199, u200, u201, u202, u203, u204, u205, u206, u207, u208, u209, u210, u211, u212, u213, u214, u215, u216], defers := [] }) → J a' w') (hK : ∀ (a' : Act) (w' : World), Met J a' w' → K' a' w') :
    Code.wp Try.prog (behind 1 (firstC (behind 3 (innerC (firstC (behind 2 (innerC (innerC (behind 1 (firstC (behind 9 (Try.f6.body.getD .skip)))))))))))) (Exit.then K' (Exit.inBlock 1 (Exit.then K1 (Exit.then KI (Exit.inBlock 0 (Exit.then KJ (bodyPost Try.prog Try.f6 R))))))) { tmps := #[u0, u1, u2, u3, u4, u5, u6, u7, u8, u9, ptrB p, .int .i64 0, .pointer (some ⟨xk, 0, none⟩), ptrB xn, ptrB xm, u15, u16, .pointer (some ⟨z, 0, none⟩), .int .i64 nn, u19, u20, u21, u22, u23, u24, u25, u26, u27, u28, u29, u30, u31, u32, u33, u34, u35, u36, u37, u38, u39, u40, u41, u42, u43, u44, u45, u46, u47, u48, u49, .int .i64 i, u51, u52, u53, u54, u55, u56, u57, u58, u59, u60, .int .i64 pk, u62, u63, u64, u65, u66, u67, u68, u69, u70, u71, u72, u73, u74, u75, u76, u77, u78, u79, u80, u81, u82, u83, u84, u85, u86, u87, u88, u89, u90, u91, u92, u93, u94, u95, u96, u97, u98, u99, u100, u101, u102, u103, u104, u105, u106, u107, u108, u109, u110, u111, u112, u113, u114, u115, u116, u117, u118, u119, u120, u121, u122, u123, u124, u125, u126, u127, u128, u129, u130, u131, u132, u133, u134, u135, u136, u137, u138, u139, u140, u141, u142, u143, u144, u145, u146, u147, u148, u149, u150, u151, u152, u153, u154, u155, u156, u157, u158, u159, u160, u161, u162, u163, u164, u165, u166, u167, u168, u169, u170, u171, u172, u173, u174, u175, u176, u177, u178, u179, u180, u181, u182, u183, u184, u185, u186, u187, u188, u189, u190, u191, u192, u193, u194, u195, u196, u197, u198, u199, u200, u201, u202, u203, u204, u205, u206, u207, u208, u209, u210, u211, u212, u213, u214, u215, u216], defers := [] } W3 := by
  conv =>
    arg 2
    simp only [Try.f6, Option.getD, behind, firstC, innerC]
  conv =>
    arg 4
    dsimp only
  dsimp only at hJ
  subst hpk
  rw [show ((5 : Nat) : Int) = 5 from rfl]
  have hrun := K3.out.n.map.look nn (wfI (by have := NN.out; omega) (by have := NN.out; omega))
  rw [lift_nat] at hrun
  have n1 : W3.cell? ⟨xn, 1, none⟩ = some (.map (some mn)) := K3.out.n.has.cell 1
  cases hTn : TN nn with
  | none =>
    rw [hTn] at hrun
    simp only [Option.getD, Option.isSome] at hrun
    clear hTn
    go_wp2_with fail
    go_meet
    exact ⟨rfl, 0, rfl, .inl ⟨rfl, x, P, B, C, mk, mn, mk, B.q, fB, TK, TN, TK, K3.out.mono (Nat.le_succ _), S3.out.more (by omega) (by omega), F3.out.less (by omega)⟩⟩
  | some u =>
    rw [hTn] at hrun
    simp only [Option.getD, Option.isSome] at hrun
    have TNN := Lib.hid hTn
    clear hTn
    obtain ⟨f0, f1, f2⟩ := st_free S3.out (by have := I1.out; omega) (by have := I1.out; omega) TNN.out
    have WO := Lib.hid (keep_without mn i (lift TN) nn W3 (by have := I1.out; omega) K3.out.n.map (wfI (by have := NN.out; omega) (by have := NN.out; omega)))
    rw [lift_cut] at WO
    have FF := Lib.hid (freeP_fit (k := (250 - i) * 100000 + 10000) (F3.out.less (by omega)) nn)
    have KF := Lib.hid (fun (w1 : World) (nb : Nat) (h1 : KP w w1 gd p x P xk xn xm mk nb mk i B.q C.q B.q TK (cutT TN nn) TK) => kp_Free h1 OKP.out (F3.out.less (by omega)) nn (by have := NN.out; omega))
    have F1 := Lib.hid f1; have F2 := Lib.hid f2
    obtain ⟨R, hR⟩ : ∃ R, (P.freeP nn).1 = R := ⟨_, rfl⟩
    obtain ⟨E, hE⟩ : ∃ E, (P.freeP nn).2 = E := ⟨_, rfl⟩
    rw [hR, hE] at KF F1 F2
    rw [hR] at FF
    clear f0 f1 f2 hR hE
    have zf := K3.out.n.has.frozen
    go_upto_region 34 with ((go_at_call 43; (with_reducible refine WO.out.mono ?_); rintro e w6 ⟨nb, rfl, hms, hln, hb6⟩; have y1 : w6.cell? ⟨xn, 1, none⟩ = some (.map (some mn)) := (K3.out.below hb6).n.has.cell 1; have yf := (K3.out.below hb6).n.has.frozen; have K6 := Lib.hid ((K3.out.below hb6).storeN1 hms (fun h2 => by have := PM.lt K3.out.pm _ h2; omega) (Nat.le_trans K3.out.bel.size hln)); clear hms hln hb6))
    obtain ⟨W7, hW7⟩ : ∃ W, w6.setCell ⟨xn, 1, none⟩ (.map (some nb)) = W := ⟨_, rfl⟩
    rw [hW7] at K6 ⊢
    clear hW7 y1 yf
    go_wp2_with ((go_at_call 44; (with_reducible refine (KF.out _ _ K6.out).mono ?_); rintro e w8 ⟨rfl, x8, hk8, ht8⟩))
    go_meet
    refine ⟨rfl, E, rfl, ?_⟩
    by_cases e0 : E = 0
    · obtain ⟨N', hq, hs⟩ := F1.out e0
      rw [← hq] at hk8
      exact .inl ⟨e0, _, R, B, N', mk, nb, mk, B.q, fB, TK, _, TK, hk8.mono (Nat.le_succ _), hs.more (by omega) (by omega), FF.out.less (by omega)⟩
    · exact .inr ⟨e0, _, R, B, mk, nb, mk, i, C.q, B.q, TK, _, TK, hk8, FF.out.less (by omega), fun _ => (F2.out e0 B.q TK).1, (F2.out e0 B.q TK).2⟩
set_option maxRecDepth 100000 in
set_option maxHeartbeats 100000000 in
theorem law_act6 (w W3 : World) (gd p xk xn xm z i nn pk mk mn fB : Nat) (hpk : pk = 6) (x : Bx) (P : Pl) (B C : Bk) (TK TN : Nat → Option ByteArray) (a : ActK) (S : ByteArray)
    (K3 : Hid (KP w W3 gd p x P xk xn xm mk mn mk i B.q C.q B.q TK TN TK)) (H3 : Hid (Has W3 z 45 #[.int .i64 a.kind, .int .i64 a.f, .int .i64 a.at_, .int .i64 a.n, .string a.s, .string a.t]))
    (S3 : Hid (St P B C TK TN fB (1 + 3 * i) (1 + i))) (F3 : Hid (Fit P.L.D ((250 - i) * 100000 + 90000))) (OKP : Hid P.ok) (SH : Hid (∀ w1 : World, Calls Try.prog 16 #[.int .i64 a.at_] w1 fun e w' => e = .returned (.string S) ∧ Below w1.heap.size w1 w'))
    (SZ : Hid (S.size = 1024)) (NN : Hid (1 ≤ nn ∧ nn ≤ 20)) (I1 : Hid (i < 250)) (HZX : Hid (z ≠ xm ∧ z ≠ xn ∧ z ≠ xk ∧ some z ∉ x.all p ∧ w.heap.size ≤ z))
    (u0 u1 u2 u3 u4 u5 u6 u7 u8 u9 u15 u16 u19 u20 u21 u22 u23 u24 u25 u26 u27 u28 u29 u30 u31 u32 u33 u34 u35 u36 u37 u38 u39 u40 u41 u42 u43 u44 u45 u46 u47 u48 u49 u51 u52 u53 u54 u55 u56 u57 u58 u59 u60 u62 u63 u64 u65 u66 u67 u68 u69 u70 u71 u72 u73 u74 u75 u76 u77 u78 u79 u80 u81 u82 u83 u84 u85 u86 u87 u88 u89 u90 u91 u92 u93 u94 u95 u96 u97 u98 u99 u100 u101 u102 u103 u104 u105 u106 u107 u108 u109 u110 u111 u112 u113 u114 u115 u116 u117 u118 u119 u120 u121 u122 u123 u124 u125 u126 u127 u128 u129 u130 u131 u132 u133 u134 u135 u136 u137 u138 u139 u140 u141 u142 u143 u144 u145 u146 u147 u148 u149 u150 u151 u152 u153 u154 u155 u156 u157 u158 u159 u160 u161 u162 u163 u164 u165 u166 u167 u168 u169 u170 u171 u172 u173 u174 u175 u176 u177 u178 u179 u180 u181 u182 u183 u184 u185 u186 u187 u188 u189 u190 u191 u192 u193 u194 u195 u196 u197 u198 u199 u200 u201 u202 u203 u204 u205 u206 u207 u208 u209 u210 u211 u212 u213 u214 u215 u216 : Value) (J K' K1 KI KJ : Act → World → Prop) (R : Ending → World → Prop)
    (hJ : ∀ (a' : Act) (w' : World), (∃ e11 e18 e19 e20 e21 e22 e50 e51 e52 e53 e54 e55 e56 e57 e58 e59 e60 e61 e62 e63 e64 e65 e66 e67 e68 e69 e70 e71 e72 e73 e74 e75 e76 e77 e78 e79 e80 e81 e82 e83 e84 e85 e86 e87 e88 e89 e90 e91 e92 e93 e94 e95 e96 e97 e98 e99 e100 e101 e102 e103 e104 e105 e106 e107 e108 e109 e110 e111 e112 e113 e114 e115 e116 e117 e118 e119 e120 e121 e122 e123 e124 e125 e126 e127 e128 e129 e130 e131 e132 e133 e134 e135 e136 e137 e138 e139 e140 e141 e142 e143 e144 e145 e146 e147 e148 e149 e150 e151 e152 e153 e154 e155 e156 e157 e158, (e50 = .int .i64 i ∧ ∃ E : Int, e11 = .int .i64 E ∧ MidP w w' gd p xk xn xm i E) ∧ a' = { tmps := #[u0, u1, u2, u3, u4, u5, u6, u7, u8, u9, ptrB p, e11, .pointer (some ⟨xk, 0, none⟩), ptrB xn, ptrB xm, u15, u16, .pointer (some ⟨z, 0, none⟩), e18, e19, e20, e21, e22, u23, u24, u25, u26, u27, u28, u29, u30, u31, u32, u33, u34, u35, u36, u37, u38, u39, u40, u41, u42, u43, u44, u45, u46, u47, u48, u49, e50, e51, e52, e53, e54, e55, e56, e57, e58, e59, e60, e61, e62, e63, e64, e65, e66, e67, e68, e69, e70, e71, e72, e73, e74, e75, e76, e77, e78, e79, e80, e81, e82, e83, e84, e85, e86, e87, e88, e89, e90, e91, e92, e93, e94, e95, e96, e97, e98, e99, e100, e101, e102, e103, e104, e105, e106, e107, e108, e109, e110, e111, e112, e113, e114, e115, e116, e117, e118, e119, e120, e121, e122, e123, e124, e125, e126, e127, e128, e129, e130, e131, e132, e133, e134, e135, e136, e137, e138, e139, e140, e141, e142, e143, e144, e145, e146, e147, e148, e149, e150, e151, e152, e153, e154, e155, e156, e157, e158, u159, u160, u161, u162, u163, u164, u165, u166, u167, u168, u169, u170, u171, u172, u173, u174, u175, u176, u177, u178, u179, u180, u181, u182, u183, u184, u185, u186, u187, u188, u189, u190, u191, u192, u193, u194, u195, u196, u197, u198, u199, u200, u201, u202, u203, u204, u205, u206, u207, u208, u209, u210, u211, u212, u213, u214, u215, u216], defers := [] }) → J a' w') (hK : ∀ (a' : Act) (w' : World), Met J a' w' → K' a' w') :
    Code.wp Try.prog (behind 1 (firstC (behind 3 (innerC (firstC (behind 2 (innerC (innerC (behind 1 (firstC (behind 9 (Try.f6.body.getD .skip)))))))))))) (Exit.then K' (Exit.inBlock 1 (Exit.then K1 (Exit.then KI (Exit.inBlock 0 (Exit.then KJ (bodyPost Try.prog Try.f6 R))))))) { tmps := #[u0, u1, u2, u3, u4, u5, u6, u7, u8, u9, ptrB p, .int .i64 0, .pointer (some ⟨xk, 0, none⟩), ptrB xn, ptrB xm, u15, u16, .pointer (some ⟨z, 0, none⟩), .int .i64 nn, u19, u20, u21, u22, u23, u24, u25, u26, u27, u28, u29, u30, u31, u32, u33, u34, u35, u36, u37, u38, u39, u40, u41, u42, u43, u44, u45, u46, u47, u48, u49, .int .i64 i, u51, u52, u53, u54, u55, u56, u57, u58, u59, u60, .int .i64 pk, u62, u63, u64, u65, u66, u67, u68, u69, u70, u71, u72, u73, u74, u75, u76, u77, u78, u79, u80, u81, u82, u83, u84, u85, u86, u87, u88, u89, u90, u91, u92, u93, u94, u95, u96, u97, u98, u99, u100, u101, u102, u103, u104, u105, u106, u107, u108, u109, u110, u111, u112, u113, u114, u115, u116, u117, u118, u119, u120, u121, u122, u123, u124, u125, u126, u127, u128, u129, u130, u131, u132, u133, u134, u135, u136, u137, u138, u139, u140, u141, u142, u143, u144, u145, u146, u147, u148, u149, u150, u151, u152, u153, u154, u155, u156, u157, u158, u159, u160, u161, u162, u163, u164, u165, u166, u167, u168, u169, u170, u171, u172, u173, u174, u175, u176, u177, u178, u179, u180, u181, u182, u183, u184, u185, u186, u187, u188, u189, u190, u191, u192, u193, u194, u195, u196, u197, u198, u199, u200, u201, u202, u203, u204, u205, u206, u207, u208, u209, u210, u211, u212, u213, u214, u215, u216], defers := [] } W3 := by
  conv =>
    arg 2
    simp only [Try.f6, Option.getD, behind, firstC, innerC]
  conv =>
    arg 4
    dsimp only
  dsimp only at hJ
  subst hpk
  rw [show ((6 : Nat) : Int) = 6 from rfl]
  obtain ⟨c1, c2, c3⟩ := st_commit S3.out (by have := I1.out; omega) (by have := I1.out; omega)
  have K4 := Lib.hid (K3.out.storeM (q' := C.q) K3.out.n.map K3.out.n.offm K3.out.n.lowm)
  have x0 : W3.cell? ⟨xn, 0, none⟩ = some (.int .i64 C.q) := K3.out.n.has.cell 0
  have x1 : W3.cell? ⟨xn, 1, none⟩ = some (.map (some mn)) := K3.out.n.has.cell 1
  have y0 : W3.cell? ⟨xm, 0, none⟩ = some (.int .i64 B.q) := K3.out.m.has.cell 0
  have y1 : W3.cell? ⟨xm, 1, none⟩ = some (.map (some mk)) := K3.out.m.has.cell 1
  have yf := K3.out.m.has.frozen
  go_upto_region 37 with fail
  obtain ⟨W4, hW4⟩ : ∃ W, two W3 xm (.int .i64 C.q) (.map (some mn)) = W := ⟨_, rfl⟩
  rw [hW4] at K4
  rw [show ((W3.setCell ⟨xm, 0, none⟩ (.int .i64 C.q)).setCell ⟨xm, 1, none⟩ (.map (some mn))) = W4 from hW4]
  have CM := Lib.hid (kp_Commit K4.out OKP.out (F3.out.less (by omega)) c1)
  have CF := Lib.hid (commitP_fit (k := (250 - i) * 100000 + 10000) (F3.out.less (by omega)) OKP.out)
  have C2 := Lib.hid c2; have C3 := Lib.hid c3
  have GB := Lib.hid S3.out.gB
  have BQ := Lib.hid (show B.q ≤ 60000 by have := S3.out.inv.le; have := S3.out.q; have := I1.out; omega)
  obtain ⟨fC, hfC⟩ : ∃ f, P.free = f := ⟨_, rfl⟩
  rw [hfC] at C2
  obtain ⟨R, hR⟩ : ∃ R, P.commit.1 = R := ⟨_, rfl⟩
  obtain ⟨E, hE⟩ : ∃ E, P.commit.2 = E := ⟨_, rfl⟩
  rw [hR, hE] at CM C2 C3
  rw [hR] at CF
  clear c1 c2 c3 hR hE hfC hW4 x0 x1 y0 y1 yf K3 H3
  by_cases e0 : E = 0
  · subst e0
    go_upto_region 39 with ((go_at_call 45; (with_reducible refine CM.out.mono ?_); rintro e w6 ⟨rfl, x6, hk6, ht6⟩))
    have K6 := Lib.hid hk6
    clear hk6 ht6 CM
    have x0 : w6.cell? ⟨xn, 0, none⟩ = some (.int .i64 C.q) := K6.out.n.has.cell 0
    have x1 : w6.cell? ⟨xn, 1, none⟩ = some (.map (some mn)) := K6.out.n.has.cell 1
    have y0 : w6.cell? ⟨xk, 0, none⟩ = some (.int .i64 B.q) := K6.out.k.has.cell 0
    have y1 : w6.cell? ⟨xk, 1, none⟩ = some (.map (some mk)) := K6.out.k.has.cell 1
    have yf := K6.out.k.has.frozen
    have K7 := Lib.hid (K6.out.storeK (q' := C.q) K6.out.n.map K6.out.n.offm K6.out.n.lowm)
    go_wp2_with fail
    go_meet
    exact ⟨rfl, 0, rfl, .inl ⟨rfl, _, R, C, C, mn, mn, mn, C.q, fC, TN, TN, TN, K7.out.mono (Nat.le_succ _), (C2.out (by simp)).more (by omega) (by omega), CF.out.less (by omega)⟩⟩
  · have n1 : (E == 0) = false := by simpa using e0
    have HE := Lib.hid e0
    clear e0
    go_wp2_with ((go_at_call 45; (with_reducible refine CM.out.mono ?_); rintro e w6 ⟨rfl, x6, hk6, ht6⟩))
    go_meet
    exact ⟨rfl, E, rfl, .inr ⟨HE.out, _, R, B, mk, mn, mn, i, C.q, C.q, TK, TN, TN, hk6, CF.out.less (by omega), fun _ => (C3.out HE.out).1, ⟨_, GB.out⟩, BQ.out, (C3.out HE.out).2⟩⟩
set_option maxRecDepth 100000 in
set_option maxHeartbeats 100000000 in
theorem law_act7 (w W3 : World) (gd p xk xn xm z i nn pk mk mn fB : Nat) (hpk : pk = 7) (x : Bx) (P : Pl) (B C : Bk) (TK TN : Nat → Option ByteArray) (a : ActK) (S : ByteArray)
    (K3 : Hid (KP w W3 gd p x P xk xn xm mk mn mk i B.q C.q B.q TK TN TK)) (H3 : Hid (Has W3 z 45 #[.int .i64 a.kind, .int .i64 a.f, .int .i64 a.at_, .int .i64 a.n, .string a.s, .string a.t]))
    (S3 : Hid (St P B C TK TN fB (1 + 3 * i) (1 + i))) (F3 : Hid (Fit P.L.D ((250 - i) * 100000 + 90000))) (OKP : Hid P.ok) (SH : Hid (∀ w1 : World, Calls Try.prog 16 #[.int .i64 a.at_] w1 fun e w' => e = .returned (.string S) ∧ Below w1.heap.size w1 w'))
    (SZ : Hid (S.size = 1024)) (NN : Hid (1 ≤ nn ∧ nn ≤ 20)) (I1 : Hid (i < 250)) (HZX : Hid (z ≠ xm ∧ z ≠ xn ∧ z ≠ xk ∧ some z ∉ x.all p ∧ w.heap.size ≤ z))
    (u0 u1 u2 u3 u4 u5 u6 u7 u8 u9 u15 u16 u19 u20 u21 u22 u23 u24 u25 u26 u27 u28 u29 u30 u31 u32 u33 u34 u35 u36 u37 u38 u39 u40 u41 u42 u43 u44 u45 u46 u47 u48 u49 u51 u52 u53 u54 u55 u56 u57 u58 u59 u60 u62 u63 u64 u65 u66 u67 u68 u69 u70 u71 u72 u73 u74 u75 u76 u77 u78 u79 u80 u81 u82 u83 u84 u85 u86 u87 u88 u89 u90 u91 u92 u93 u94 u95 u96 u97 u98 u99 u100 u101 u102 u103 u104 u105 u106 u107 u108 u109 u110 u111 u112 u113 u114 u115 u116 u117 u118 u119 u120 u121 u122 u123 u124 u125 u126 u127 u128 u129 u130 u131 u132 u133 u134 u135 u136 u137 u138 u139 u140 u141 u142 u143 u144 u145 u146 u147 u148 u149 u150 u151 u152 u153 u154 u155 u156 u157 u158 u159 u160 u161 u162 u163 u164 u165 u166 u167 u168 u169 u170 u171 u172 u173 u174 u175 u176 u177 u178 u179 u180 u181 u182 u183 u184 u185 u186 u187 u188 u189 u190 u191 u192 u193 u194 u195 u196 u197 u198 u199 u200 u201 u202 u203 u204 u205 u206 u207 u208 u209 u210 u211 u212 u213 u214 u215 u216 : Value) (J K' K1 KI KJ : Act → World → Prop) (R : Ending → World → Prop)
    (hJ : ∀ (a' : Act) (w' : World), (∃ e11 e18 e19 e20 e21 e22 e50 e51 e52 e53 e54 e55 e56 e57 e58 e59 e60 e61 e62 e63 e64 e65 e66 e67 e68 e69 e70 e71 e72 e73 e74 e75 e76 e77 e78 e79 e80 e81 e82 e83 e84 e85 e86 e87 e88 e89 e90 e91 e92 e93 e94 e95 e96 e97 e98 e99 e100 e101 e102 e103 e104 e105 e106 e107 e108 e109 e110 e111 e112 e113 e114 e115 e116 e117 e118 e119 e120 e121 e122 e123 e124 e125 e126 e127 e128 e129 e130 e131 e132 e133 e134 e135 e136 e137 e138 e139 e140 e141 e142 e143 e144 e145 e146 e147 e148 e149 e150 e151 e152 e153 e154 e155 e156 e157 e158, (e50 = .int .i64 i ∧ ∃ E : Int, e11 = .int .i64 E ∧ MidP w w' gd p xk xn xm i E) ∧ a' = { tmps := #[u0, u1, u2, u3, u4, u5, u6, u7, u8, u9, ptrB p, e11, .pointer (some ⟨xk, 0, none⟩), ptrB xn, ptrB xm, u15, u16, .pointer (some ⟨z, 0, none⟩), e18, e19, e20, e21, e22, u23, u24, u25, u26, u27, u28, u29, u30, u31, u32, u33, u34, u35, u36, u37, u38, u39, u40, u41, u42, u43, u44, u45, u46, u47, u48, u49, e50, e51, e52, e53, e54, e55, e56, e57, e58, e59, e60, e61, e62, e63, e64, e65, e66, e67, e68, e69, e70, e71, e72, e73, e74, e75, e76, e77, e78, e79, e80, e81, e82, e83, e84, e85, e86, e87, e88, e89, e90, e91, e92, e93, e94, e95, e96, e97, e98, e99, e100, e101, e102, e103, e104, e105, e106, e107, e108, e109, e110, e111, e112, e113, e114, e115, e116, e117, e118, e119, e120, e121, e122, e123, e124, e125, e126, e127, e128, e129, e130, e131, e132, e133, e134, e135, e136, e137, e138, e139, e140, e141, e142, e143, e144, e145, e146, e147, e148, e149, e150, e151, e152, e153, e154, e155, e156, e157, e158, u159, u160, u161, u162, u163, u164, u165, u166, u167, u168, u169, u170, u171, u172, u173, u174, u175, u176, u177, u178, u179, u180, u181, u182, u183, u184, u185, u186, u187, u188, u189, u190, u191, u192, u193, u194, u195, u196, u197, u198, u199, u200, u201, u202, u203, u204, u205, u206, u207, u208, u209, u210, u211, u212, u213, u214, u215, u216], defers := [] }) → J a' w') (hK : ∀ (a' : Act) (w' : World), Met J a' w' → K' a' w') :
    Code.wp Try.prog (behind 1 (firstC (behind 3 (innerC (firstC (behind 2 (innerC (innerC (behind 1 (firstC (behind 9 (Try.f6.body.getD .skip)))))))))))) (Exit.then K' (Exit.inBlock 1 (Exit.then K1 (Exit.then KI (Exit.inBlock 0 (Exit.then KJ (bodyPost Try.prog Try.f6 R))))))) { tmps := #[u0, u1, u2, u3, u4, u5, u6, u7, u8, u9, ptrB p, .int .i64 0, .pointer (some ⟨xk, 0, none⟩), ptrB xn, ptrB xm, u15, u16, .pointer (some ⟨z, 0, none⟩), .int .i64 nn, u19, u20, u21, u22, u23, u24, u25, u26, u27, u28, u29, u30, u31, u32, u33, u34, u35, u36, u37, u38, u39, u40, u41, u42, u43, u44, u45, u46, u47, u48, u49, .int .i64 i, u51, u52, u53, u54, u55, u56, u57, u58, u59, u60, .int .i64 pk, u62, u63, u64, u65, u66, u67, u68, u69, u70, u71, u72, u73, u74, u75, u76, u77, u78, u79, u80, u81, u82, u83, u84, u85, u86, u87, u88, u89, u90, u91, u92, u93, u94, u95, u96, u97, u98, u99, u100, u101, u102, u103, u104, u105, u106, u107, u108, u109, u110, u111, u112, u113, u114, u115, u116, u117, u118, u119, u120, u121, u122, u123, u124, u125, u126, u127, u128, u129, u130, u131, u132, u133, u134, u135, u136, u137, u138, u139, u140, u141, u142, u143, u144, u145, u146, u147, u148, u149, u150, u151, u152, u153, u154, u155, u156, u157, u158, u159, u160, u161, u162, u163, u164, u165, u166, u167, u168, u169, u170, u171, u172, u173, u174, u175, u176, u177, u178, u179, u180, u181, u182, u183, u184, u185, u186, u187, u188, u189, u190, u191, u192, u193, u194, u195, u196, u197, u198, u199, u200, u201, u202, u203, u204, u205, u206, u207, u208, u209, u210, u211, u212, u213, u214, u215, u216], defers := [] } W3 := by
  conv =>
    arg 2
    simp only [Try.f6, Option.getD, behind, firstC, innerC]
  conv =>
    arg 4
    dsimp only
  dsimp only at hJ
  subst hpk
  rw [show ((7 : Nat) : Int) = 7 from rfl]
  obtain ⟨b1, b2, b3⟩ := st_back S3.out (by have := I1.out; omega) (by have := I1.out; omega)
  have BK := Lib.hid (kp_Rollback K3.out OKP.out b1 (F3.out.less (by omega)))
  have BF := Lib.hid (rollback_fit (k := (250 - i) * 100000 + 80000) (F3.out.less (by omega)))
  have B2 := Lib.hid b2; have B3 := Lib.hid b3
  obtain ⟨R, hR⟩ : ∃ R, P.rollback.1 = R := ⟨_, rfl⟩
  obtain ⟨E, hE⟩ : ∃ E, P.rollback.2 = E := ⟨_, rfl⟩
  rw [hR, hE] at BK B2 B3
  rw [hR] at BF
  clear b1 b2 b3 hR hE
  go_upto_region 42 with ((go_at_call 46; (with_reducible refine BK.out.mono ?_); rintro e w6 ⟨rfl, x6, hk6, ht6⟩))
  have K6 := Lib.hid hk6
  clear hk6 ht6 BK
  have x0 : w6.cell? ⟨xk, 0, none⟩ = some (.int .i64 B.q) := K6.out.k.has.cell 0
  have x1 : w6.cell? ⟨xk, 1, none⟩ = some (.map (some mk)) := K6.out.k.has.cell 1
  have y0 : w6.cell? ⟨xn, 0, none⟩ = some (.int .i64 C.q) := K6.out.n.has.cell 0
  have y1 : w6.cell? ⟨xn, 1, none⟩ = some (.map (some mn)) := K6.out.n.has.cell 1
  have yf := K6.out.n.has.frozen
  have K7 := Lib.hid (K6.out.storeN (q' := B.q) K6.out.k.map K6.out.k.offm K6.out.k.lowm)
  go_wp2_with fail
  go_meet
  refine ⟨rfl, E, rfl, ?_⟩
  by_cases e0 : E = 0
  · exact .inl ⟨e0, _, R, B, B, mk, mk, mk, B.q, fB, TK, TK, TK, K7.out.mono (Nat.le_succ _), (B2.out e0).more (by omega) (by omega), BF.out.less (by omega)⟩
  · exact .inr ⟨e0, _, R, B, mk, mk, mk, i, B.q, B.q, TK, TK, TK, K7.out, BF.out.less (by omega), fun _ => (B3.out e0 B.q TK).1, (B3.out e0 B.q TK).2⟩

end Go.Proofs.Ytjihboddejaelaa
