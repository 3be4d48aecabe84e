/-
  The law PoolRuns: poolStep: one act on both pools.
-/
import Derived.Test.YtjihboddejaelaaGreatPr21
import Derived.Deep.CutBlock
import Derived.Deep.DeepCutAuto
import Derived.Deep.RegionHeld3
import Derived.BigQuiet
set_option linter.unusedVariables false
set_option linter.unusedSimpArgs false
namespace Go.Proofs.YtjihboddejaelaaGreat
open Go.RowKit
open Go.BigFrame
open Go.Maps
set_option maxRecDepth 100000 in
set_option maxHeartbeats 100000000 in
theorem law_poolStep (w0 w:World) (gd p rd r q ac:Nat) (x:Bz) (y:Qx) (P:Pl) (a:ActV) (W k cw cc m:Nat) (h:PQA w0 w gd p x rd r q y ac ac a P P) (hl:Live P W k cw cc) (h1:1000≤W) (hW:W≤20000) (hk:k≤1000) (hw:cw≤800000000) (hc:cc≤2900000000000000000) (hm:y.T.length≤m) (hm2:m≤800000) (hn:in64' a.n) (hf:in64' a.f) :
 Calls Tryz.prog 22 #[.pointer (some ⟨p,0,none⟩),.pointer (some ⟨q,0,none⟩),.agg a.arr] w (StepPost w0 gd p rd r q ac a W k cw cc m (.bool true)):=by
 have LV:=Lib.hid hl;have H1:=Lib.hid h1;have HW4:=Lib.hid (show W≤40000 by omega);have HW2:=Lib.hid hW;have HK:=Lib.hid (show k≤1000000 by omega);have HK2:=Lib.hid hk
 have HW:=Lib.hid (show cw≤900000000 by omega);have HWW:=Lib.hid hw;have HC:=Lib.hid (show cc≤3000000000000000000 by omega);have HCC:=Lib.hid hc
 have HM:=Lib.hid hm;have HM2:=Lib.hid hm2;have HM9:=Lib.hid (show y.T.length≤900000 by omega);have HN:=Lib.hid hn;have HF:=Lib.hid hf
 have T0:=Lib.hid (show PQA w0 (w.alloc (.cells #[.int .i64 a.kind,.int .i64 a.f,.int .i64 a.at_,.int .i64 a.n,.string a.s,.string a.t,.slice a.kA a.kn a.kc,.slice a.cA a.cn a.cc] 61)) gd p x rd r q y w.heap.size ac a P P from h.act3)
 have y0:(w.alloc (.cells #[.int .i64 a.kind,.int .i64 a.f,.int .i64 a.at_,.int .i64 a.n,.string a.s,.string a.t,.slice a.kA a.kn a.kc,.slice a.cA a.cn a.cc] 61)).cell? ⟨w.heap.size,0,none⟩=some (.int .i64 a.kind):=T0.out.act.cell 0
 clear h hl h1 hW hk hw hc hm hm2 hn hf
 unfold ActV.arr
 go_enter Tryz.func22,Tryz.ntmps22
 go_upto_region 1 with fail
 generalize w.alloc (.cells #[.int .i64 a.kind,.int .i64 a.f,.int .i64 a.at_,.int .i64 a.n,.string a.s,.string a.t,.slice a.kA a.kn a.kc,.slice a.cA a.cn a.cc] 61)=wv at *
 generalize w.heap.size=ab at *
 by_cases k1:a.kind=1
 ·as_aux_lemma =>
   have TC:=Lib.hid T0.out
   obtain ⟨x0,x1,x2,x3,x4,x6⟩:=TC.out.act.arr
   have xz:=TC.out.act.lt
   rw [k1] at x0
   obtain ⟨S,hS⟩:∃ S,P.text a.n=S:=⟨_,rfl⟩
   have RP:=Lib.hid (fun w1 x1 (h1:PQA w0 w1 gd p x1 rd r q y ab ac a P P)=>pq_Read h1 LV.out HW.out HC.out a.n HN.out)
   have RQ:=Lib.hid (fun w1 x1 (h1:PQA w0 w1 gd p x1 rd r q y ab ac a (P.get a.n).1 P)=>qq_Read h1 LV.out HW4.out HW.out HC.out a.n)
   rw [hS] at RP RQ
   have s1:(S.toList == S.toList)=true:=by simp
   clear hS
   go_wp2_with (first | (go_at_call 70;(refine (RP.out _ _ TC.out).mono ?_);rintro e w2 ⟨rfl,x1',ht⟩;have TC:=Lib.hid ht;clear ht;obtain ⟨x0,x1,x2,x3,x4,x6⟩:=TC.out.act.arr;have xz:=TC.out.act.lt) | (go_at_call 71;(refine (RQ.out _ _ TC.out).mono ?_);rintro e w2 ⟨rfl,y1',ht,hT1⟩;have TC:=Lib.hid ht;have HT1:=Lib.hid hT1;clear ht hT1;obtain ⟨x0,x1,x2,x3,x4,x6⟩:=TC.out.act.arr;have xz:=TC.out.act.lt) | (go_at_call 20;refine (law_numS _ _).mono ?_;rintro e w1 ⟨rfl,rfl⟩))
   go_ret
   exact StepPost.of TC.out (after_get LV.out HW4.out a.n) (Nat.le_succ _) HT1.out (by have:=HM.out;omega)
 by_cases k2:a.kind=2
 ·as_aux_lemma =>
   have TC:=Lib.hid T0.out
   obtain ⟨x0,x1,x2,x3,x4,x6⟩:=TC.out.act.arr
   have xz:=TC.out.act.lt
   rw [k2] at x0
   have TC:=Lib.hid (TC.out.step (Below.refl _ _).drew)
   go_wp2_with fail
   go_region_held3 (fun w'=>w'.cell? ⟨ab,2,none⟩=some (.int .i64 a.at_)∧w'.cell? ⟨ab,3,none⟩=some (.int .i64 a.n)) (first | exact (⟨TC.out.act.cell 2,TC.out.act.cell 3⟩) | go_keep)
    (first | (go_at_call 73;(refine (law_sheet a.at_ _).mono ?_);rintro e w2 ⟨rfl,hb⟩;have TC:=Lib.hid (TC.out.step hb);clear hb;obtain ⟨x0,x1,x2,x3,x4,x6⟩:=TC.out.act.arr;have xz:=TC.out.act.lt) | (go_at_call 72;(refine (pq_Write TC.out LV.out HW.out HC.out a.n HN.out (sheetB a.at_)).mono ?_);rintro e w2 ⟨rfl,x1',ht⟩;have TC:=Lib.hid ht;clear ht;obtain ⟨x0,x1,x2,x3,x4,x6⟩:=TC.out.act.arr;have xz:=TC.out.act.lt) | (go_at_call 74;(refine (qq_Write TC.out LV.out HW4.out HW.out HC.out HM9.out a.n (sheetB a.at_)).mono ?_);rintro e w2 ⟨rfl,y1',ht,hT1⟩;have TC:=Lib.hid ht;have HT1:=Lib.hid hT1;clear ht hT1;obtain ⟨x0,x1,x2,x3,x4,x6⟩:=TC.out.act.arr;have xz:=TC.out.act.lt) | (go_at_call 20;refine (law_numS _ _).mono ?_;rintro e w1 ⟨rfl,rfl⟩))
   go_wp2_with fail
   go_ret
   exact StepPost.of TC.out (after_write LV.out HW4.out a.n (sheetB a.at_)) (Nat.le_succ _) HT1.out (by have:=HM.out;omega)
 by_cases k3:a.kind=3
 ·as_aux_lemma =>
   have TC:=Lib.hid T0.out
   obtain ⟨x0,x1,x2,x3,x4,x6⟩:=TC.out.act.arr
   have xz:=TC.out.act.lt
   rw [k3] at x0
   have TC:=Lib.hid (TC.out.step (Below.refl _ _).drew)
   go_wp2_with fail
   go_region_held3 (fun w'=>w'.cell? ⟨ab,3,none⟩=some (.int .i64 a.n)) (first | exact (TC.out.act.cell 3) | go_keep)
    (first | (go_at_call 75;(refine (pq_Pin TC.out LV.out HK.out HW.out HC.out a.n HN.out).mono ?_);rintro e w2 ⟨rfl,x1',ht⟩;have TC:=Lib.hid ht;clear ht;obtain ⟨x0,x1,x2,x3,x4,x6⟩:=TC.out.act.arr;have xz:=TC.out.act.lt) | (go_at_call 76;(refine (qq_Pin TC.out LV.out HK.out HW4.out HW.out HC.out a.n).mono ?_);rintro e w2 ⟨rfl,y1',ht,hT1⟩;have TC:=Lib.hid ht;have HT1:=Lib.hid hT1;clear ht hT1;obtain ⟨x0,x1,x2,x3,x4,x6⟩:=TC.out.act.arr;have xz:=TC.out.act.lt) | (go_at_call 20;refine (law_numS _ _).mono ?_;rintro e w1 ⟨rfl,rfl⟩))
   go_wp2_with fail
   go_ret
   exact StepPost.of TC.out (after_pin LV.out HW4.out a.n) (Nat.le_refl _) HT1.out (by have:=HM.out;omega)
 by_cases k4:a.kind=4
 ·as_aux_lemma =>
   have TC:=Lib.hid T0.out
   obtain ⟨x0,x1,x2,x3,x4,x6⟩:=TC.out.act.arr
   have xz:=TC.out.act.lt
   rw [k4] at x0
   have TC:=Lib.hid (TC.out.step (Below.refl _ _).drew)
   go_wp2_with fail
   go_region_held3 (fun w'=>w'.cell? ⟨ab,3,none⟩=some (.int .i64 a.n)) (first | exact (TC.out.act.cell 3) | go_keep)
    (first | (go_at_call 77;(refine (pq_Unpin TC.out LV.out HK.out a.n HN.out).mono ?_);rintro e w2 ⟨rfl,x1',ht⟩;have TC:=Lib.hid ht;clear ht;obtain ⟨x0,x1,x2,x3,x4,x6⟩:=TC.out.act.arr;have xz:=TC.out.act.lt) | (go_at_call 78;(refine (qq_Unpin TC.out LV.out HK.out a.n).mono ?_);rintro e w2 ⟨rfl,y1',ht,hT1⟩;have TC:=Lib.hid ht;have HT1:=Lib.hid hT1;clear ht hT1;obtain ⟨x0,x1,x2,x3,x4,x6⟩:=TC.out.act.arr;have xz:=TC.out.act.lt) | (go_at_call 20;refine (law_numS _ _).mono ?_;rintro e w1 ⟨rfl,rfl⟩))
   go_wp2_with fail
   go_ret
   exact StepPost.of TC.out (after_unpin LV.out HW4.out a.n) (Nat.le_succ _) HT1.out (by have:=HM.out;omega)
 by_cases k5:a.kind=5
 ·as_aux_lemma =>
   have TC:=Lib.hid T0.out
   obtain ⟨x0,x1,x2,x3,x4,x6⟩:=TC.out.act.arr
   have xz:=TC.out.act.lt
   rw [k5] at x0
   go_wp2_with (first | (go_at_call 45;(refine (pq_Alloc TC.out LV.out HW.out HC.out).mono ?_);rintro e w2 ⟨rfl,x1',ht⟩;have TC:=Lib.hid ht;clear ht;obtain ⟨x0,x1,x2,x3,x4,x6⟩:=TC.out.act.arr;have xz:=TC.out.act.lt) | (go_at_call 79;(refine (qq_Alloc TC.out LV.out HW4.out HW.out HC.out HM9.out).mono ?_);rintro e w2 ⟨rfl,y1',ht,hT1⟩;have TC:=Lib.hid ht;have HT1:=Lib.hid hT1;clear ht hT1;obtain ⟨x0,x1,x2,x3,x4,x6⟩:=TC.out.act.arr;have xz:=TC.out.act.lt) | (go_at_call 20;refine (law_numS _ _).mono ?_;rintro e w1 ⟨rfl,rfl⟩))
   go_ret
   exact StepPost.of TC.out (after_alloc LV.out HW4.out) (Nat.le_succ _) HT1.out (by have:=HM.out;omega)
 by_cases k6:a.kind=6
 ·as_aux_lemma =>
   have TC:=Lib.hid T0.out
   obtain ⟨x0,x1,x2,x3,x4,x6⟩:=TC.out.act.arr
   have xz:=TC.out.act.lt
   rw [k6] at x0
   have TC:=Lib.hid (TC.out.step (Below.refl _ _).drew)
   go_wp2_with fail
   go_region_held3 (fun w'=>w'.cell? ⟨ab,3,none⟩=some (.int .i64 a.n)) (first | exact (TC.out.act.cell 3) | go_keep)
    (first | (go_at_call 80;(refine (pq_Free TC.out LV.out HW.out HC.out a.n HN.out).mono ?_);rintro e w2 ⟨rfl,x1',ht⟩;have TC:=Lib.hid ht;clear ht;obtain ⟨x0,x1,x2,x3,x4,x6⟩:=TC.out.act.arr;have xz:=TC.out.act.lt) | (go_at_call 81;(refine (qq_Free TC.out LV.out HW4.out HW.out HC.out HM9.out a.n).mono ?_);rintro e w2 ⟨rfl,y1',ht,hT1⟩;have TC:=Lib.hid ht;have HT1:=Lib.hid hT1;clear ht hT1;obtain ⟨x0,x1,x2,x3,x4,x6⟩:=TC.out.act.arr;have xz:=TC.out.act.lt) | (go_at_call 20;refine (law_numS _ _).mono ?_;rintro e w1 ⟨rfl,rfl⟩))
   go_wp2_with fail
   go_ret
   exact StepPost.of TC.out (after_free LV.out HW4.out a.n) (Nat.le_succ _) HT1.out (by have:=HM.out;omega)
 by_cases k7:a.kind=7
 ·as_aux_lemma =>
   have TC:=Lib.hid T0.out
   obtain ⟨x0,x1,x2,x3,x4,x6⟩:=TC.out.act.arr
   have xz:=TC.out.act.lt
   rw [k7] at x0
   go_wp2_with (first | (go_at_call 32;(refine (pq_Commit TC.out LV.out HW4.out HW.out HC.out).mono ?_);rintro e w2 ⟨rfl,x1',ht⟩;have TC:=Lib.hid ht;clear ht;obtain ⟨x0,x1,x2,x3,x4,x6⟩:=TC.out.act.arr;have xz:=TC.out.act.lt) | (go_at_call 82;(refine (qq_Commit TC.out LV.out HW4.out HW.out HC.out).mono ?_);rintro e w2 ⟨rfl,y1',ht,hT1⟩;have TC:=Lib.hid ht;have HT1:=Lib.hid hT1;clear ht hT1;obtain ⟨x0,x1,x2,x3,x4,x6⟩:=TC.out.act.arr;have xz:=TC.out.act.lt) | (go_at_call 20;refine (law_numS _ _).mono ?_;rintro e w1 ⟨rfl,rfl⟩))
   go_ret
   exact StepPost.of TC.out ((after_commit LV.out HW4.out).1) (Nat.le_succ _) HT1.out (by have:=HM.out;omega)
 by_cases k8:a.kind=8
 ·as_aux_lemma =>
   have TC:=Lib.hid T0.out
   obtain ⟨x0,x1,x2,x3,x4,x6⟩:=TC.out.act.arr
   have xz:=TC.out.act.lt
   rw [k8] at x0
   go_wp2_with (first | (go_at_call 83;(refine (pq_Rollback TC.out LV.out HW.out HC.out).mono ?_);rintro e w2 ⟨rfl,x1',ht⟩;have TC:=Lib.hid ht;clear ht;obtain ⟨x0,x1,x2,x3,x4,x6⟩:=TC.out.act.arr;have xz:=TC.out.act.lt) | (go_at_call 84;(refine (qq_Rollback TC.out LV.out HW4.out HW.out HC.out HM9.out).mono ?_);rintro e w2 ⟨rfl,y1',ht,hT1⟩;have TC:=Lib.hid ht;have HT1:=Lib.hid hT1;clear ht hT1;obtain ⟨x0,x1,x2,x3,x4,x6⟩:=TC.out.act.arr;have xz:=TC.out.act.lt) | (go_at_call 20;refine (law_numS _ _).mono ?_;rintro e w1 ⟨rfl,rfl⟩))
   go_ret
   exact StepPost.of TC.out (after_rollback LV.out HW4.out) (Nat.le_succ _) HT1.out (by have:=HM.out;omega)
 by_cases k11:a.kind=11
 ·as_aux_lemma =>
   have TC:=Lib.hid T0.out
   obtain ⟨x0,x1,x2,x3,x4,x6⟩:=TC.out.act.arr
   have xz:=TC.out.act.lt
   rw [k11] at x0
   go_wp2_with (first | (go_at_call 85;(refine (pq_Checkpoint TC.out LV.out HW.out HC.out).mono ?_);rintro e w2 ⟨rfl,x1',ht⟩;have TC:=Lib.hid ht;clear ht;obtain ⟨x0,x1,x2,x3,x4,x6⟩:=TC.out.act.arr;have xz:=TC.out.act.lt) | (go_at_call 86;(refine (qq_Checkpoint TC.out LV.out HW.out HC.out).mono ?_);rintro e w2 ⟨rfl,y1',ht,hT1⟩;have TC:=Lib.hid ht;have HT1:=Lib.hid hT1;clear ht hT1;obtain ⟨x0,x1,x2,x3,x4,x6⟩:=TC.out.act.arr;have xz:=TC.out.act.lt) | (go_at_call 20;refine (law_numS _ _).mono ?_;rintro e w1 ⟨rfl,rfl⟩))
   go_ret
   exact StepPost.of TC.out (after_check LV.out HW4.out) (Nat.le_succ _) HT1.out (by have:=HM.out;omega)
 by_cases k12:a.kind=12
 ·as_aux_lemma =>
   have TC:=Lib.hid T0.out
   obtain ⟨x0,x1,x2,x3,x4,x6⟩:=TC.out.act.arr
   have xz:=TC.out.act.lt
   rw [k12] at x0
   have TC:=Lib.hid (TC.out.step (Below.refl _ _).drew)
   go_wp2_with fail
   go_region_held3 (fun w'=>w'.cell? ⟨ab,3,none⟩=some (.int .i64 a.n)∧w'.cell? ⟨ab,4,none⟩=some (.string a.s)) (first | exact (⟨TC.out.act.cell 3,TC.out.act.cell 4⟩) | go_keep)
    (first | (go_at_call 72;(refine (pq_Write TC.out LV.out HW.out HC.out a.n HN.out a.s).mono ?_);rintro e w2 ⟨rfl,x1',ht⟩;have TC:=Lib.hid ht;clear ht;obtain ⟨x0,x1,x2,x3,x4,x6⟩:=TC.out.act.arr;have xz:=TC.out.act.lt) | (go_at_call 74;(refine (qq_Write TC.out LV.out HW4.out HW.out HC.out HM9.out a.n a.s).mono ?_);rintro e w2 ⟨rfl,y1',ht,hT1⟩;have TC:=Lib.hid ht;have HT1:=Lib.hid hT1;clear ht hT1;obtain ⟨x0,x1,x2,x3,x4,x6⟩:=TC.out.act.arr;have xz:=TC.out.act.lt) | (go_at_call 20;refine (law_numS _ _).mono ?_;rintro e w1 ⟨rfl,rfl⟩))
   go_wp2_with fail
   go_ret
   exact StepPost.of TC.out (after_write LV.out HW4.out a.n a.s) (Nat.le_succ _) HT1.out (by have:=HM.out;omega)
 by_cases k13:a.kind=13
 ·as_aux_lemma =>
   have TC:=Lib.hid T0.out
   obtain ⟨x0,x1,x2,x3,x4,x6⟩:=TC.out.act.arr
   have xz:=TC.out.act.lt
   rw [k13] at x0
   clear k1 k2 k3 k4 k5 k6 k7 k8 k11 k12 k13 y0
   have PK:=Lib.hid (fun w1=>law_pick a.f 400 HF.out (by omega) (by omega) w1)
   have HNN:=Lib.hid (pickN'_lt a.f (n:=400) (by omega))
   obtain ⟨N,hN⟩:∃ N,pickN' a.f 400=N:=⟨_,rfl⟩
   rw [hN] at PK HNN
   rw [show ((400:Nat):Int)=400 from rfl] at PK
   clear hN
   go_wp2_with fail
   go_loopw [15] (fun v15 wr=>∃ (i:Nat) (x':Bz) (y':Qx) (P':Pl),i≤N∧v15 = .int .i64 i∧PQA w0 wr gd p x' rd r q y' ab ac a P' P'∧Live P' W k (cw+600*i) (cc+142000*i)∧y'.T.length≤m+i) (fun v15 _=>N-(intOf v15).toNat)
   case atStart=>exact ⟨0,x,y,P,Nat.zero_le _,rfl,T0.out,LV.out,HM.out⟩
   case round =>
    clear x0 x1 x2 x3 x4 x6 xz TC T0 LV HM HM9
    obtain ⟨i,x',y',P',hi,rfl,hT,hL,hY⟩:=hrel
    have T0:=Lib.hid hT;have LV:=Lib.hid hL;have HY:=Lib.hid hY
    clear hT hL hY
    have TC:=Lib.hid T0.out
    obtain ⟨x0,x1,x2,x3,x4,x6⟩:=TC.out.act.arr
    have xz:=TC.out.act.lt
    by_cases hiN:i<N
    ·have WPI:=Lib.hid (wrap_next (i:=i) (by have:=HNN.out;omega))
     have MS:=Lib.hid (next_less hiN)
     have HW5:=Lib.hid (show cw+600*i≤900000000 by have:=HNN.out;have:=HWW.out;omega)
     have HC5:=Lib.hid (show cc+142000*i≤3000000000000000000 by have:=HNN.out;have:=HCC.out;omega)
     have HT9:=Lib.hid (show y'.T.length≤900000 by have:=HNN.out;have:=HM2.out;have:=HY.out;omega)
     obtain ⟨S,hS⟩:∃ S,sheetB (IntKind.i64.wrap (a.at_+(i:Int)))=S:=⟨_,rfl⟩
     have TS:=Lib.hid (fun w1=>law_sheet (IntKind.i64.wrap (a.at_+(i:Int))) w1)
     rw [hS] at TS
     have TA:=Lib.hid (turn_after LV.out H1.out (by have:=HW2.out;omega) a.n S)
     have RP:=Lib.hid (fun w1 x1 Q1 (h1:PQA w0 w1 gd p x1 rd r q y' ab ac a P' Q1)=>pq_Write h1 LV.out HW5.out HC5.out a.n HN.out S)
     have RQ:=Lib.hid (fun w1 x1 Q1 (h1:PQA w0 w1 gd p x1 rd r q y' ab ac a Q1 P')=>qq_Write h1 LV.out HW4.out HW5.out HC5.out HT9.out a.n S)
     obtain ⟨E,hE⟩:∃ E,(P'.write a.n S).2=E:=⟨_,rfl⟩
     obtain ⟨P1,hP1⟩:∃ Q,(P'.write a.n S).1=Q:=⟨_,rfl⟩
     rw [hE,hP1] at TA
     rw [hE,hP1] at RP RQ
     clear hE hP1 hS
     go_wp2_with (go_at_call 33;refine (PK.out _).mono ?_;rintro e w1 ⟨rfl,rfl⟩)
     have TC:=Lib.hid (TC.out.step (Below.refl _ _).drew)
     go_region_held3 (fun w'=>w'.cell? ⟨ab,2,none⟩=some (.int .i64 a.at_)∧w'.cell? ⟨ab,3,none⟩=some (.int .i64 a.n)) (first | exact ⟨TC.out.act.cell 2,TC.out.act.cell 3⟩ | go_keep)
      (first | (go_at_call 73;(refine (TS.out _).mono ?_);rintro e w2 ⟨rfl,hb⟩;have TC:=Lib.hid (TC.out.step hb);clear hb;obtain ⟨x0,x1,x2,x3,x4,x6⟩:=TC.out.act.arr;have xz:=TC.out.act.lt) | (go_at_call 72;(refine (RP.out _ _ _ TC.out).mono ?_);rintro e w2 ⟨rfl,x1',ht⟩;have TC:=Lib.hid ht;clear ht;obtain ⟨x0,x1,x2,x3,x4,x6⟩:=TC.out.act.arr;have xz:=TC.out.act.lt) | (go_at_call 74;(refine (RQ.out _ _ _ TC.out).mono ?_);rintro e w2 ⟨rfl,y1',ht,hT1⟩;have TC:=Lib.hid ht;have HT1:=Lib.hid hT1;clear ht hT1;obtain ⟨x0,x1,x2,x3,x4,x6⟩:=TC.out.act.arr;have xz:=TC.out.act.lt) | (go_at_call 20;refine (law_numS _ _).mono ?_;rintro e w1 ⟨rfl,rfl⟩))
     by_cases h2:E=2
     ·as_aux_lemma =>
       subst h2
       go_wp2_with fail
       go_ret
       exact ⟨rfl,_,_,P1,TC.out.outer,after_more TA.out.1 (by omega) (by omega) (by have:=HNN.out;omega) (by have:=HNN.out;omega),by have:=HT1.out;have:=HY.out;have:=HNN.out;omega⟩
     ·as_aux_lemma =>
       have e2:(E == 2)=false:=beq_eq_false_iff_ne.2 h2
       obtain ⟨hl1,ha2,hl2⟩:=TA.out.2 h2
       have LV1:=Lib.hid hl1;have AF2:=Lib.hid ha2;have LV2:=Lib.hid hl2
       clear hl1 ha2 hl2 TA h2 T0 RP RQ TS
       have HWa:=Lib.hid (show W+5≤40000 by have:=HW2.out;omega)
       have HWb:=Lib.hid (show cw+600*i+300≤900000000 by have:=HNN.out;have:=HWW.out;omega)
       have HCb:=Lib.hid (show cc+142000*i+71000≤3000000000000000000 by have:=HNN.out;have:=HCC.out;omega)
       have RC:=Lib.hid (fun w1 x1 y1 Q1 (h1:PQA w0 w1 gd p x1 rd r q y1 ab ac a P1 Q1)=>pq_Commit h1 LV1.out HWa.out HWb.out HCb.out)
       have RD:=Lib.hid (fun w1 x1 y1 Q1 (h1:PQA w0 w1 gd p x1 rd r q y1 ab ac a Q1 P1)=>qq_Commit h1 LV1.out HWa.out HWb.out HCb.out)
       obtain ⟨F,hF⟩:∃ E,P1.commit.2=E:=⟨_,rfl⟩
       obtain ⟨P2,hP2⟩:∃ Q,P1.commit.1=Q:=⟨_,rfl⟩
       rw [hF,hP2] at RC
       rw [hF,hP2] at RD
       rw [hP2] at AF2
       rw [hF,hP2] at LV2
       clear hF hP2
       go_upto_region 33 with (first | (go_at_call 32;(refine (RC.out _ _ _ _ TC.out).mono ?_);rintro e w2 ⟨rfl,x1',ht⟩;have TC:=Lib.hid ht;clear ht;obtain ⟨x0,x1,x2,x3,x4,x6⟩:=TC.out.act.arr;have xz:=TC.out.act.lt) | (go_at_call 82;(refine (RD.out _ _ _ _ TC.out).mono ?_);rintro e w2 ⟨rfl,y1',ht,hT1⟩;have TC:=Lib.hid ht;have HT2:=Lib.hid hT1;clear ht hT1;obtain ⟨x0,x1,x2,x3,x4,x6⟩:=TC.out.act.arr;have xz:=TC.out.act.lt) | (go_at_call 20;refine (law_numS _ _).mono ?_;rintro e w1 ⟨rfl,rfl⟩))
       clear RC RD LV1
       by_cases h3:F=2
       ·as_aux_lemma =>
         subst h3
         go_wp2_with fail
         go_ret
         exact ⟨rfl,_,_,P2,TC.out.outer,after_more AF2.out (by omega) (by omega) (by have:=HNN.out;omega) (by have:=HNN.out;omega),by have:=HT2.out;have:=HT1.out;have:=HY.out;have:=HNN.out;omega⟩
       ·as_aux_lemma =>
         have e3:(F == 2)=false:=beq_eq_false_iff_ne.2 h3
         have LVN:=Lib.hid (LV2.out h3)
         clear LV2 h3
         go_upto_region 35 with fail
         obtain ⟨Ar,kr,y1,_,_⟩:=TC.out.pq.qm.log.frames
         obtain ⟨y2,y3⟩:=TC.out.pq.qm.cells
         have yz1:=TC.out.pq.qm.head.2.1
         have yz2:=TC.out.pq.qm.log.cells.2.2.2.2.2.1
         have TF:=Lib.hid (fun w1 (h1:PQA w0 w1 gd p x1' rd r q y1' ab ac a P2 P2)=>pool_Frames _ _ _ _ _ _ _ _ _ _ P2 w1 h1.pq.pm)
         obtain ⟨fl,hfl⟩:∃ fl,P2.L.fs.length=fl:=⟨_,rfl⟩
         rw [hfl] at TF y1
         have PB:=Lib.hid TC.out
         have HT3:=Lib.hid (show y1'.T.length≤m+(i+1) by have:=HT2.out;have:=HT1.out;have:=HY.out;omega)
         clear hfl x0 x1 x2 x3 x4 x6 xz
         go_wp2_with fail
         refine wp_region_cls (_) (by kernel_rfl) (by kernel_rfl) (Cls.start _) ?_
         repeat
          first
           | go_big_quiet_skip
           | (go_big_quiet_want;(first | go_big_quiet_op | go_simp);first | go_big_quiet_on | (apply Exists.intro;refine ⟨fun w' hw'=>?_, ?_⟩;(·(first | (with_reducible exact rfl) | ((go_at_call 28;(with_reducible refine (TF.out _ (PB.out.step hw'.bel)).mono ?_);rintro e w9 ⟨rfl,rfl⟩;exact ⟨rfl,hw'⟩)) | (obtain ⟨hc,hf⟩:=hw'.facts;go_simp;first | done | (with_reducible exact rfl) | (with_reducible exact ⟨rfl,rfl⟩))));go_big_quiet_on))
         refine wpQuiet_nil ?_
         intro wq hq
         have TC:=Lib.hid (PB.out.step hq.bel)
         clear hq
         go_wp2_with fail
         go_roundw
         case rel=>exact ⟨i+1,_,_,P2,hiN,by rw [WPI.out],TC.out,LVN.out.more (Nat.le_refl _) (Nat.le_refl _) (by omega) (by omega),HT3.out⟩
         case measure=>rw [WPI.out];exact MS.out
    ·obtain rfl:i=N:=by omega
     go_wp2_with (go_at_call 33;refine (PK.out _).mono ?_;rintro e w1 ⟨rfl,rfl⟩)
     go_ret
     exact ⟨rfl,_,_,P',TC.out.outer,after_more LV.out.after (by omega) (by omega) (by have:=HNN.out;omega) (by have:=HNN.out;omega),by have:=HY.out;have:=HNN.out;omega⟩
 ·as_aux_lemma =>
   have TC:=Lib.hid T0.out
   obtain ⟨x0,x1,x2,x3,x4,x6⟩:=TC.out.act.arr
   have xz:=TC.out.act.lt
   obtain ⟨kk,hkk⟩:∃ k,a.kind=k:=⟨_,rfl⟩
   rw [hkk] at x0 k1 k2 k3 k4 k5 k6 k7 k8 k11 k12 k13
   have e1:(kk == 1)=false:=beq_eq_false_iff_ne.2 k1
   have e2:(kk == 2)=false:=beq_eq_false_iff_ne.2 k2
   have e3:(kk == 3)=false:=beq_eq_false_iff_ne.2 k3
   have e4:(kk == 4)=false:=beq_eq_false_iff_ne.2 k4
   have e5:(kk == 5)=false:=beq_eq_false_iff_ne.2 k5
   have e6:(kk == 6)=false:=beq_eq_false_iff_ne.2 k6
   have e7:(kk == 7)=false:=beq_eq_false_iff_ne.2 k7
   have e8:(kk == 8)=false:=beq_eq_false_iff_ne.2 k8
   have e11:(kk == 11)=false:=beq_eq_false_iff_ne.2 k11
   have e12:(kk == 12)=false:=beq_eq_false_iff_ne.2 k12
   have e13:(kk == 13)=false:=beq_eq_false_iff_ne.2 k13
   clear k1 k2 k3 k4 k5 k6 k7 k8 k11 k12 k13
   go_wp2_with fail
   go_ret
   exact StepPost.of TC.out (after_more LV.out.after (Nat.le_add_right _ _) (Nat.le_refl _) (Nat.le_add_right _ _) (Nat.le_add_right _ _)) (Nat.le_succ _) (Nat.le_refl _) (by have:=HM.out;omega)
end Go.Proofs.YtjihboddejaelaaGreat
