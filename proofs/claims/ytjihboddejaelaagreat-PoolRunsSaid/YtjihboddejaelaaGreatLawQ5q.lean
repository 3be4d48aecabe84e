/-
  The law PoolRuns.
-/
import Derived.Test.YtjihboddejaelaaGreatLawQ3q
import Derived.Test.YtjihboddejaelaaGreatPr22
import Derived.Deep.CutBlock
import Derived.Deep.CutRange
import Derived.Deep.DeepCutAuto
import Derived.Deep.RegionHeld3
import Derived.BigQuiet
set_option linter.unusedVariables false
set_option linter.unusedSimpArgs false
namespace Go.Proofs.YtjihboddejaelaaGreat
open Go.RowKit
open Go.BigFrame
open Go.Maps
theorem live_ok {P:Pl} {W k cw cc:Nat} (h:Live P W k cw cc):P.ok:=by
 obtain ⟨B,N,fB,a,b,d⟩:=h.book
 exact a.ok
theorem live_ws {P:Pl} {W k cw cc:Nat} (h:Live P W k cw cc) (hc:cw≤1000000000):P.L.D.waits.length≤1000000000:=Nat.le_trans h.waits hc
set_option maxRecDepth 100000 in
set_option maxHeartbeats 100000000 in
theorem law_PoolRuns (fr:Int) (A:Option Addr) (n c:Nat) (acts:List ActV) (w:World) (h:AS w A n acts) (hc:n≤c) (hina:∀ a∈acts,in64' a.n∧in64' a.f) :
 Calls Tryz.prog 4 #[.int .i64 fr,.slice A n c] w fun e w'=>e = .returned (.bool true)∧Below w.heap.size w w':=by
 have HA:=Lib.hid (h.take (k:=min n 250) (by omega))
 have TS:=Lib.hid (fun w1=>law_short A n c hc w1)
 obtain ⟨N,hN⟩:∃ N,min n 250=N:=⟨_,rfl⟩
 have hN2:N≤250:=by omega
 have hNn:N≤n:=by omega
 obtain ⟨al,has⟩:∃ al,acts.take (min n 250)=al:=⟨_,rfl⟩
 have HIN:=Lib.hid (fun a (ha:a∈al)=>hina a (List.mem_of_mem_take (has ▸ ha)))
 rw [has] at HA
 rw [hN] at HA TS
 clear h hc hN has hina
 by_cases hm:8≤fr∧fr≤64
 ·obtain ⟨M,rfl⟩:∃ M:Nat,fr=M:=⟨fr.toNat,by omega⟩
  have HM8:=Lib.hid (show 8≤M by omega)
  have HM64:=Lib.hid (show M≤64 by omega)
  clear hm
  go_enter Tryz.func4,Tryz.ntmps4
  go_wp2_with fail
  refine (disk_New w).mono ?_
  rintro e w1 ⟨gd,b0,rfl,hp,ht1⟩
  go_wp2_with fail
  refine (refd_New w1).mono ?_
  rintro e w2 ⟨rd,c0,rfl,hq,ht2⟩
  have H0:Hid (Two w w2 gd rd b0 c0 Dk.new Dk.new):=⟨hp.below ht2.belowN,hq,fun k hk h2=>by have:=hp.lt hk;have:=ht2.newN k h2;omega,ht1.newN,fun k hk=>Nat.le_trans ht1.size (ht2.newN k hk),bel_step ht1.belowN ht2.belowN ht1.size⟩
  clear hp ht1 hq ht2
  obtain ⟨P5,hop,hlv⟩:=opens_first gd rd HM8.out HM64.out
  have OPN:=Lib.hid hop
  have LV0:=Lib.hid hlv
  clear hop hlv
  go_upto_region 8 with (first
   | (go_at_call 7;(refine (OPN.out.prog _ _ H0.out.p).mono ?_);rintro e w3 ⟨b5,g5,n5,n6,p5,e5,h5,t5,rfl,hpm,ht5⟩;have HPM:Hid (Bz.pm ⟨b5,g5,n5,n6,e5,h5,t5,[]⟩ w3 gd p5 P5):=Lib.hid hpm;have HT5:Hid (Turn _ (Bz.all ⟨b5,g5,n5,n6,e5,h5,t5,[]⟩ p5) _ _):=Lib.hid ht5;have HR5:=Lib.hid (H0.out.rpFar ht5);clear hpm ht5)
   | (go_at_call 19;(refine (OPN.out.ref _ _ HR5.out).mono ?_);rintro e w4 ⟨r5,q5,y5,rfl,hqm,ht6,hT0⟩;have H1:=Lib.hid (PQ.ofTwo H0.out HPM.out HT5.out hqm ht6);have HT0:=Lib.hid hT0;clear hqm ht6 hT0)
   | (go_at_call 20;refine (law_numS _ _).mono ?_;rintro e w1 ⟨rfl,rfl⟩))
  clear H0 HPM HT5 HR5 OPN
  go_wp2_with fail
  go_loopw [7,9,11] (fun v7 v9 v11 wr=>∃ (i p q r:Nat) (x:Bz) (y:Qx) (P:Pl),i≤N∧v11 = .int .i64 i∧v7 = .pointer (some ⟨p,0,none⟩)∧v9 = .pointer (some ⟨q,0,none⟩)∧PQ w wr gd p x rd r q y P P∧Live P (1000+10*i) i (100+300000*i) (100+60000000*i)∧y.T.length≤500*i) (fun _ _ v11 _=>N-(intOf v11).toNat)
  case atStart=>exact ⟨0,p5,q5,r5,_,_,P5,Nat.zero_le _,rfl,rfl,rfl,H1.out,LV0.out.more (by omega) (by omega) (by omega) (by omega),by rw [HT0.out];exact Nat.zero_le _⟩
  case round =>
   clear H1 LV0 HT0
   obtain ⟨i,p,q,r,x,y,P,hi,rfl,rfl,rfl,hT,hL,hY⟩:=hrel
   have HT:=Lib.hid hT
   have LV:=Lib.hid hL
   have HTy:=Lib.hid hY
   clear hT hL hY
   by_cases hin:i<N
   ·obtain ⟨k,off,rfl,hk,hcell⟩:=HA.out.2.1 (by omega)
    have hl:i<al.length:=by rw [HA.out.1];exact hin
    have hcell2:=hcell i al[i] (by simp [hl])
    have AO:=Lib.hid (HA.out.2.2 al[i] (List.getElem_mem hl))
    have HN:=Lib.hid (HIN.out al[i] (List.getElem_mem hl))
    obtain ⟨a,ha⟩:∃ a,al[i]=a:=⟨_,rfl⟩
    rw [ha] at hcell2 AO HN
    obtain ⟨wcl,wfl⟩:=bcell HT.out.bel
    have d0:wr.cell? ⟨k,off+i*8,none⟩=some (.int .i64 a.kind):=(wcl k (off+i*8+0) hk).trans (hcell2 0 _ rfl)
    have d1:wr.cell? ⟨k,off+i*8+1,none⟩=some (.int .i64 a.f):=(wcl k (off+i*8+1) hk).trans (hcell2 1 _ rfl)
    have d2:wr.cell? ⟨k,off+i*8+2,none⟩=some (.int .i64 a.at_):=(wcl k (off+i*8+2) hk).trans (hcell2 2 _ rfl)
    have d3:wr.cell? ⟨k,off+i*8+3,none⟩=some (.int .i64 a.n):=(wcl k (off+i*8+3) hk).trans (hcell2 3 _ rfl)
    have d4:wr.cell? ⟨k,off+i*8+4,none⟩=some (.string a.s):=(wcl k (off+i*8+4) hk).trans (hcell2 4 _ rfl)
    have d5:wr.cell? ⟨k,off+i*8+5,none⟩=some (.string a.t):=(wcl k (off+i*8+5) hk).trans (hcell2 5 _ rfl)
    have d6:wr.cell? ⟨k,off+i*8+6,none⟩=some (.slice a.kA a.kn a.kc):=(wcl k (off+i*8+6) hk).trans (hcell2 6 _ rfl)
    have d7:wr.cell? ⟨k,off+i*8+7,none⟩=some (.slice a.cA a.cn a.cc):=(wcl k (off+i*8+7) hk).trans (hcell2 7 _ rfl)
    have zz:k<wr.heap.size:=by have:=HT.out.bel.size;omega
    have WPI:=Lib.hid (wrap_next (i:=i) (by omega))
    have MS:=Lib.hid (next_less hin)
    have i3:i<n:=by omega
    have i1:decide ((i:Int)<(N:Int))=true:=decide_eq_true (by omega)
    have HNN:=Lib.hid (show a.n≤9223372036854775807 from HN.out.1.2)
    have ST:=Lib.hid (law_poolStep w _ gd p rd r q wr.heap.size x y P a (1000+10*i) i (100+300000*i) (100+60000000*i) (500*i) (HT.out.act a) LV.out (by omega) (by omega) (by omega) (by omega) (by omega) HTy.out (by omega) HN.out.1 HN.out.2)
    unfold ActV.arr at ST
    clear hcell hcell2 ha wcl wfl hl HN
    go_upto_block 2 with (first | (go_at_call 22;(refine ST.out.mono ?_);rintro e w5 ⟨rfl,x1',y1',P1,ht,haf,hT⟩;have TC:=Lib.hid ht;have AF:=Lib.hid haf;have HT1:=Lib.hid hT;clear ht haf hT;obtain ⟨x0,x1,x2,x3,x4,x6⟩:=TC.out.act.arr;have xz:=TC.out.act.lt) | (go_at_call 21;refine (TS.out _).mono ?_;rintro e w1 ⟨rfl,rfl⟩))
    generalize wr.heap.size=ab at *
    clear ST d0 d1 d2 d3 d4 d5 d6 d7 zz HT LV HTy
    by_cases k10:a.kind=10
    ·as_aux_lemma =>
      have e9:(a.kind == 9)=false:=by rw [k10];rfl
      have e10:(a.kind == 10)=true:=by rw [k10];rfl
      clear k10
      have TD:=Lib.hid (TC.out.two AF.out.told.ok (by have:=AF.out.waits;omega))
      obtain ⟨P5,hop,hlv⟩:=opens_again (D:=P1.L.D) gd rd AF.out.told (by omega) a.ks HM8.out HM64.out
      have OPN:=Lib.hid hop
      have LV5:=Lib.hid hlv
      clear hop hlv
      go_upto_region 28 with (first | (go_at_call 25;(refine (ta_CrashP TD.out AO.out).mono ?_);rintro e w2 ⟨rfl,b1',hta⟩;have TD:=Lib.hid hta;clear hta;obtain ⟨x0,x1,x2,x3,x4,x6⟩:=TD.out.act.arr;have xz:=TD.out.act.lt) | (go_at_call 26;(refine (ta_CrashQ TD.out AO.out).mono ?_);rintro e w2 ⟨rfl,b1',hta⟩;have TD:=Lib.hid hta;clear hta;obtain ⟨x0,x1,x2,x3,x4,x6⟩:=TD.out.act.arr;have xz:=TD.out.act.lt) | (go_at_call 7;(refine (OPN.out.prog _ _ TD.out.two.p).mono ?_);rintro e w3 ⟨b5,g5,n5,n6,p5,e5,h5,t5,rfl,hpm,ht5⟩;have HPM:Hid (Bz.pm ⟨b5,g5,n5,n6,e5,h5,t5,[]⟩ w3 gd p5 P5):=Lib.hid hpm;have HT5:Hid (Turn _ (Bz.all ⟨b5,g5,n5,n6,e5,h5,t5,[]⟩ p5) _ _):=Lib.hid ht5;have HR5:=Lib.hid (TD.out.two.rpFar ht5);clear hpm ht5) | (go_at_call 19;(refine (OPN.out.ref _ _ HR5.out).mono ?_);rintro e w4 ⟨r5,q5,y5,rfl,hqm,ht6,hT0⟩;have TC:=Lib.hid (TD.out.open2 HPM.out HT5.out hqm ht6);have HT0:=Lib.hid hT0;clear hqm ht6 hT0;obtain ⟨x0,x1,x2,x3,x4,x6⟩:=TC.out.act.arr;have xz:=TC.out.act.lt) | (go_at_call 20;refine (law_numS _ _).mono ?_;rintro e w1 ⟨rfl,rfl⟩))
      have LVT:=Lib.hid (show Live P5 (1000+10*(i+1)) (i+1) (100+300000*(i+1)) (100+60000000*(i+1)) from LV5.out.more (by omega) (by omega) (by omega) (by omega))
      have HTT:=Lib.hid (show y5.T.length≤500*(i+1) from (by rw [HT0.out];exact Nat.zero_le _))
      obtain ⟨Ar,kr,y1c,_,_⟩:=TC.out.pq.qm.log.frames
      obtain ⟨qc0,qc1,qc3,qc5,qc6,qc7⟩:=TC.out.pq.qm.cells
      have yz1:=TC.out.pq.qm.head.2.1
      have yz2:=TC.out.pq.qm.log.cells.2.2.2.2.2.1
      have OKT:=Lib.hid (live_ok LVT.out)
      have WST:=Lib.hid (live_ws LVT.out (show 100+300000*(i+1)≤1000000000 by omega))
      have TPg:=Lib.hid (fun w1 (h1:PQA w w1 gd p5 ⟨b5,g5,n5,n6,e5,h5,t5,[]⟩ rd r5 q5 y5 ab ab a P5 P5)=>pool_Pages _ _ _ _ _ _ _ _ _ _ P5 w1 h1.pq.pm)
      have TFr:=Lib.hid (fun w1 (h1:PQA w w1 gd p5 ⟨b5,g5,n5,n6,e5,h5,t5,[]⟩ rd r5 q5 y5 ab ab a P5 P5)=>pool_Frames _ _ _ _ _ _ _ _ _ _ P5 w1 h1.pq.pm)
      have TSt:=Lib.hid (fun w1 (h1:PQA w w1 gd p5 ⟨b5,g5,n5,n6,e5,h5,t5,[]⟩ rd r5 q5 y5 ab ab a P5 P5)=>pool_Stat _ _ _ _ _ _ _ _ _ _ P5 w1 h1.pq.pm)
      have THo:=Lib.hid (fun w1 (h1:PQA w w1 gd p5 ⟨b5,g5,n5,n6,e5,h5,t5,[]⟩ rd r5 q5 y5 ab ab a P5 P5)=>law_holds _ _ _ _ _ _ _ P5 w1 h1.pq.pm h1.pq.qm (Nat.le_trans OKT.out.full OKT.out.most))
      have TFi:=Lib.hid (fun w1 (h1:PQA w w1 gd p5 ⟨b5,g5,n5,n6,e5,h5,t5,[]⟩ rd r5 q5 y5 ab ab a P5 P5)=>law_files w gd rd _ _ P5.L.D w1 h1.pq.two OKT.out.log.disk WST.out)
      obtain ⟨fl,hfl⟩:∃ z,P5.L.fs.length=z:=⟨_,rfl⟩
      obtain ⟨pg,hpg⟩:∃ z,P5.pages=z:=⟨_,rfl⟩
      obtain ⟨s5,hs5⟩:∃ z,P5.hits=z:=⟨_,rfl⟩
      obtain ⟨s6,hs6⟩:∃ z,P5.misses=z:=⟨_,rfl⟩
      obtain ⟨s7,hs7⟩:∃ z,P5.spills=z:=⟨_,rfl⟩
      rw [hfl] at TFr y1c
      rw [hpg] at TPg qc3
      rw [hs5,hs6,hs7] at TSt
      rw [hs5] at qc5
      rw [hs6] at qc6
      rw [hs7] at qc7
      have PB:=Lib.hid TC.out
      clear hfl hpg hs5 hs6 hs7
      clear x0 x1 x2 x3 x4 x6 xz
      go_wp2_with fail
      refine wp_region_cls (_) (by kernel_rfl) (by kernel_rfl) (Cls.start _) ?_
      repeat
       first
        | go_big_quiet_skip
        | (go_big_quiet_want;(first | go_big_quiet_op | go_simp);first | go_big_quiet_on | (apply Exists.intro;refine ⟨fun w' hw'=>?_, ?_⟩;(·(first | (with_reducible exact rfl) | (first | (go_at_call 16;(with_reducible refine (TPg.out _ (PB.out.step hw'.bel)).mono ?_);rintro e w9 ⟨rfl,rfl⟩;exact ⟨rfl,hw'⟩) | (go_at_call 28;(with_reducible refine (TFr.out _ (PB.out.step hw'.bel)).mono ?_);rintro e w9 ⟨rfl,rfl⟩;exact ⟨rfl,hw'⟩) | (go_at_call 29;(with_reducible refine (TSt.out _ (PB.out.step hw'.bel)).mono ?_);rintro e w9 ⟨rfl,hb⟩;exact ⟨rfl,Cls.step hw' hb⟩) | (go_at_call 30;(with_reducible refine (THo.out _ (PB.out.step hw'.bel)).mono ?_);rintro e w9 ⟨rfl,hb⟩;exact ⟨rfl,Cls.step hw' hb⟩) | (go_at_call 31;(with_reducible refine (TFi.out _ (PB.out.step hw'.bel)).mono ?_);rintro e w9 ⟨rfl,hb⟩;exact ⟨rfl,Cls.step hw' hb⟩)) | (obtain ⟨hc,hf⟩:=hw'.facts;go_simp;first | done | (with_reducible exact rfl) | (with_reducible exact ⟨rfl,rfl⟩))));go_big_quiet_on))
      refine wpQuiet_nil ?_
      intro wq hq
      have TC:=Lib.hid (PB.out.step hq.bel)
      clear hq
      go_wp2_with fail
      go_roundw
      case rel=>exact ⟨i+1,p5,q5,r5,⟨b5,g5,n5,n6,e5,h5,t5,[]⟩,y5,P5,hin,by first | rw [WPI.out] | exact rfl,rfl,rfl,TC.out.pq,LVT.out,HTT.out⟩
      case measure=>first | exact MS.out | (rw [WPI.out];exact MS.out)
    ·as_aux_lemma =>
      have e10:(a.kind == 10)=false:=beq_eq_false_iff_ne.2 k10
      clear k10
      go_cut [13] from 41 to 170 (fun v13 wx=>v13 = .bool true∧∃ (xb3:Bz) (yb3:Qx) (P3:Pl),PQA w wx gd p xb3 rd r q yb3 ab ab a P3 P3∧After P3 (1000+10*i+10) (i+1) (100+300000*i+300000) (100+60000000*i+60000000)∧yb3.T.length≤500*i+500)
      case first =>
       as_aux_lemma =>
        by_cases k9:a.kind=9
        ·have e9:(a.kind == 9)=true:=by rw [k9];rfl
         clear k9
         go_wp2_with (first | (go_at_call 23;(refine (disk_Fail gd _ _ a.n _ TC.out.pq.two.p).mono ?_);rintro e w2 ⟨rfl,b1',hd2,ht2⟩;obtain ⟨x2',hx2⟩:=TC.out.diskP hd2 ht2;have TC:=Lib.hid hx2;clear hd2 ht2 hx2;obtain ⟨x0,x1,x2,x3,x4,x6⟩:=TC.out.act.arr;have xz:=TC.out.act.lt) | (go_at_call 24;(refine (refd_Fail rd _ _ a.n _ TC.out.pq.two.q).mono ?_);rintro e w2 ⟨rfl,c1',hd2,ht2⟩;obtain ⟨y2',hy2,hy3⟩:=TC.out.diskQ hd2 ht2;have TC:=Lib.hid hy2;have HY3:=Lib.hid hy3;clear hd2 ht2 hy2 hy3;obtain ⟨x0,x1,x2,x3,x4,x6⟩:=TC.out.act.arr;have xz:=TC.out.act.lt))
         go_meet
         exact ⟨rfl,_,_,_,TC.out,after_fail AF.out HNN.out,by rw [HY3.out];exact HT1.out⟩
        ·have e9:(a.kind == 9)=false:=beq_eq_false_iff_ne.2 k9
         clear k9
         go_wp2_with fail
         go_meet
         exact ⟨rfl,_,_,_,TC.out,AF.out,HT1.out⟩
      case rest =>
       obtain ⟨rfl,xb3,yb3,P3,hT,hA,hY⟩:=hcut
       clear TC AF HT1
       clear x0 x1 x2 x3 x4 x6 xz
       have TC:=Lib.hid hT
       have AF:=Lib.hid hA
       have HT1:=Lib.hid hY
       clear hT hA hY
       obtain ⟨x0,x1,x2,x3,x4,x6⟩:=TC.out.act.arr
       have xz:=TC.out.act.lt
       cases hdw:P3.L.D.down with
       | true =>
         as_aux_lemma =>
          have TD:=Lib.hid (TC.out.two AF.out.told.ok (by have:=AF.out.waits;omega))
          have TDn:=Lib.hid (disk_Down gd P3.L.D _ _ TC.out.pq.two.p)
          rw [hdw] at TDn
          clear hdw
          obtain ⟨P5,hop,hlv⟩:=opens_again (D:=P3.L.D) gd rd AF.out.told (by omega) a.ks HM8.out HM64.out
          have OPN:=Lib.hid hop
          have LV5:=Lib.hid hlv
          clear hop hlv
          go_upto_region 28 with (first | (go_at_call 27;(refine TDn.out.mono ?_);rintro e w9 ⟨rfl,rfl⟩) | (go_at_call 25;(refine (ta_CrashP TD.out AO.out).mono ?_);rintro e w2 ⟨rfl,b1',hta⟩;have TD:=Lib.hid hta;clear hta;obtain ⟨x0,x1,x2,x3,x4,x6⟩:=TD.out.act.arr;have xz:=TD.out.act.lt) | (go_at_call 26;(refine (ta_CrashQ TD.out AO.out).mono ?_);rintro e w2 ⟨rfl,b1',hta⟩;have TD:=Lib.hid hta;clear hta;obtain ⟨x0,x1,x2,x3,x4,x6⟩:=TD.out.act.arr;have xz:=TD.out.act.lt) | (go_at_call 7;(refine (OPN.out.prog _ _ TD.out.two.p).mono ?_);rintro e w3 ⟨b5,g5,n5,n6,p5,e5,h5,t5,rfl,hpm,ht5⟩;have HPM:Hid (Bz.pm ⟨b5,g5,n5,n6,e5,h5,t5,[]⟩ w3 gd p5 P5):=Lib.hid hpm;have HT5:Hid (Turn _ (Bz.all ⟨b5,g5,n5,n6,e5,h5,t5,[]⟩ p5) _ _):=Lib.hid ht5;have HR5:=Lib.hid (TD.out.two.rpFar ht5);clear hpm ht5) | (go_at_call 19;(refine (OPN.out.ref _ _ HR5.out).mono ?_);rintro e w4 ⟨r5,q5,y5,rfl,hqm,ht6,hT0⟩;have TC:=Lib.hid (TD.out.open2 HPM.out HT5.out hqm ht6);have HT0:=Lib.hid hT0;clear hqm ht6 hT0;obtain ⟨x0,x1,x2,x3,x4,x6⟩:=TC.out.act.arr;have xz:=TC.out.act.lt) | (go_at_call 20;refine (law_numS _ _).mono ?_;rintro e w1 ⟨rfl,rfl⟩))
          have LVT:=Lib.hid (show Live P5 (1000+10*(i+1)) (i+1) (100+300000*(i+1)) (100+60000000*(i+1)) from LV5.out.more (by omega) (by omega) (by omega) (by omega))
          have HTT:=Lib.hid (show y5.T.length≤500*(i+1) from (by rw [HT0.out];exact Nat.zero_le _))
          obtain ⟨Ar,kr,y1c,_,_⟩:=TC.out.pq.qm.log.frames
          obtain ⟨qc0,qc1,qc3,qc5,qc6,qc7⟩:=TC.out.pq.qm.cells
          have yz1:=TC.out.pq.qm.head.2.1
          have yz2:=TC.out.pq.qm.log.cells.2.2.2.2.2.1
          have OKT:=Lib.hid (live_ok LVT.out)
          have WST:=Lib.hid (live_ws LVT.out (show 100+300000*(i+1)≤1000000000 by omega))
          have TPg:=Lib.hid (fun w1 (h1:PQA w w1 gd p5 ⟨b5,g5,n5,n6,e5,h5,t5,[]⟩ rd r5 q5 y5 ab ab a P5 P5)=>pool_Pages _ _ _ _ _ _ _ _ _ _ P5 w1 h1.pq.pm)
          have TFr:=Lib.hid (fun w1 (h1:PQA w w1 gd p5 ⟨b5,g5,n5,n6,e5,h5,t5,[]⟩ rd r5 q5 y5 ab ab a P5 P5)=>pool_Frames _ _ _ _ _ _ _ _ _ _ P5 w1 h1.pq.pm)
          have TSt:=Lib.hid (fun w1 (h1:PQA w w1 gd p5 ⟨b5,g5,n5,n6,e5,h5,t5,[]⟩ rd r5 q5 y5 ab ab a P5 P5)=>pool_Stat _ _ _ _ _ _ _ _ _ _ P5 w1 h1.pq.pm)
          have THo:=Lib.hid (fun w1 (h1:PQA w w1 gd p5 ⟨b5,g5,n5,n6,e5,h5,t5,[]⟩ rd r5 q5 y5 ab ab a P5 P5)=>law_holds _ _ _ _ _ _ _ P5 w1 h1.pq.pm h1.pq.qm (Nat.le_trans OKT.out.full OKT.out.most))
          have TFi:=Lib.hid (fun w1 (h1:PQA w w1 gd p5 ⟨b5,g5,n5,n6,e5,h5,t5,[]⟩ rd r5 q5 y5 ab ab a P5 P5)=>law_files w gd rd _ _ P5.L.D w1 h1.pq.two OKT.out.log.disk WST.out)
          obtain ⟨fl,hfl⟩:∃ z,P5.L.fs.length=z:=⟨_,rfl⟩
          obtain ⟨pg,hpg⟩:∃ z,P5.pages=z:=⟨_,rfl⟩
          obtain ⟨s5,hs5⟩:∃ z,P5.hits=z:=⟨_,rfl⟩
          obtain ⟨s6,hs6⟩:∃ z,P5.misses=z:=⟨_,rfl⟩
          obtain ⟨s7,hs7⟩:∃ z,P5.spills=z:=⟨_,rfl⟩
          rw [hfl] at TFr y1c
          rw [hpg] at TPg qc3
          rw [hs5,hs6,hs7] at TSt
          rw [hs5] at qc5
          rw [hs6] at qc6
          rw [hs7] at qc7
          have PB:=Lib.hid TC.out
          clear hfl hpg hs5 hs6 hs7
          clear x0 x1 x2 x3 x4 x6 xz
          go_wp2_with fail
          refine wp_region_cls (_) (by kernel_rfl) (by kernel_rfl) (Cls.start _) ?_
          repeat
           first
            | go_big_quiet_skip
            | (go_big_quiet_want;(first | go_big_quiet_op | go_simp);first | go_big_quiet_on | (apply Exists.intro;refine ⟨fun w' hw'=>?_, ?_⟩;(·(first | (with_reducible exact rfl) | (first | (go_at_call 16;(with_reducible refine (TPg.out _ (PB.out.step hw'.bel)).mono ?_);rintro e w9 ⟨rfl,rfl⟩;exact ⟨rfl,hw'⟩) | (go_at_call 28;(with_reducible refine (TFr.out _ (PB.out.step hw'.bel)).mono ?_);rintro e w9 ⟨rfl,rfl⟩;exact ⟨rfl,hw'⟩) | (go_at_call 29;(with_reducible refine (TSt.out _ (PB.out.step hw'.bel)).mono ?_);rintro e w9 ⟨rfl,hb⟩;exact ⟨rfl,Cls.step hw' hb⟩) | (go_at_call 30;(with_reducible refine (THo.out _ (PB.out.step hw'.bel)).mono ?_);rintro e w9 ⟨rfl,hb⟩;exact ⟨rfl,Cls.step hw' hb⟩) | (go_at_call 31;(with_reducible refine (TFi.out _ (PB.out.step hw'.bel)).mono ?_);rintro e w9 ⟨rfl,hb⟩;exact ⟨rfl,Cls.step hw' hb⟩)) | (obtain ⟨hc,hf⟩:=hw'.facts;go_simp;first | done | (with_reducible exact rfl) | (with_reducible exact ⟨rfl,rfl⟩))));go_big_quiet_on))
          refine wpQuiet_nil ?_
          intro wq hq
          have TC:=Lib.hid (PB.out.step hq.bel)
          clear hq
          go_wp2_with fail
          go_roundw
          case rel=>exact ⟨i+1,p5,q5,r5,⟨b5,g5,n5,n6,e5,h5,t5,[]⟩,y5,P5,hin,by first | rw [WPI.out] | exact rfl,rfl,rfl,TC.out.pq,LVT.out,HTT.out⟩
          case measure=>first | exact MS.out | (rw [WPI.out];exact MS.out)
       | false =>
         as_aux_lemma =>
          have LV3:=Lib.hid (AF.out.live hdw)
          have TDn:=Lib.hid (disk_Down gd P3.L.D _ _ TC.out.pq.two.p)
          rw [hdw] at TDn
          clear hdw
          go_upto_region 28 with (first | (go_at_call 27;(refine TDn.out.mono ?_);rintro e w9 ⟨rfl,rfl⟩))
          have LVT:=Lib.hid (show Live P3 (1000+10*(i+1)) (i+1) (100+300000*(i+1)) (100+60000000*(i+1)) from LV3.out.more (by omega) (by omega) (by omega) (by omega))
          have HTT:=Lib.hid (show yb3.T.length≤500*(i+1) from (by have:=HT1.out;omega))
          obtain ⟨Ar,kr,y1c,_,_⟩:=TC.out.pq.qm.log.frames
          obtain ⟨qc0,qc1,qc3,qc5,qc6,qc7⟩:=TC.out.pq.qm.cells
          have yz1:=TC.out.pq.qm.head.2.1
          have yz2:=TC.out.pq.qm.log.cells.2.2.2.2.2.1
          have OKT:=Lib.hid (live_ok LVT.out)
          have WST:=Lib.hid (live_ws LVT.out (show 100+300000*(i+1)≤1000000000 by omega))
          have TPg:=Lib.hid (fun w1 (h1:PQA w w1 gd p xb3 rd r q yb3 ab ab a P3 P3)=>pool_Pages _ _ _ _ _ _ _ _ _ _ P3 w1 h1.pq.pm)
          have TFr:=Lib.hid (fun w1 (h1:PQA w w1 gd p xb3 rd r q yb3 ab ab a P3 P3)=>pool_Frames _ _ _ _ _ _ _ _ _ _ P3 w1 h1.pq.pm)
          have TSt:=Lib.hid (fun w1 (h1:PQA w w1 gd p xb3 rd r q yb3 ab ab a P3 P3)=>pool_Stat _ _ _ _ _ _ _ _ _ _ P3 w1 h1.pq.pm)
          have THo:=Lib.hid (fun w1 (h1:PQA w w1 gd p xb3 rd r q yb3 ab ab a P3 P3)=>law_holds _ _ _ _ _ _ _ P3 w1 h1.pq.pm h1.pq.qm (Nat.le_trans OKT.out.full OKT.out.most))
          have TFi:=Lib.hid (fun w1 (h1:PQA w w1 gd p xb3 rd r q yb3 ab ab a P3 P3)=>law_files w gd rd _ _ P3.L.D w1 h1.pq.two OKT.out.log.disk WST.out)
          obtain ⟨fl,hfl⟩:∃ z,P3.L.fs.length=z:=⟨_,rfl⟩
          obtain ⟨pg,hpg⟩:∃ z,P3.pages=z:=⟨_,rfl⟩
          obtain ⟨s5,hs5⟩:∃ z,P3.hits=z:=⟨_,rfl⟩
          obtain ⟨s6,hs6⟩:∃ z,P3.misses=z:=⟨_,rfl⟩
          obtain ⟨s7,hs7⟩:∃ z,P3.spills=z:=⟨_,rfl⟩
          rw [hfl] at TFr y1c
          rw [hpg] at TPg qc3
          rw [hs5,hs6,hs7] at TSt
          rw [hs5] at qc5
          rw [hs6] at qc6
          rw [hs7] at qc7
          have PB:=Lib.hid TC.out
          clear hfl hpg hs5 hs6 hs7
          clear x0 x1 x2 x3 x4 x6 xz
          go_wp2_with fail
          refine wp_region_cls (_) (by kernel_rfl) (by kernel_rfl) (Cls.start _) ?_
          repeat
           first
            | go_big_quiet_skip
            | (go_big_quiet_want;(first | go_big_quiet_op | go_simp);first | go_big_quiet_on | (apply Exists.intro;refine ⟨fun w' hw'=>?_, ?_⟩;(·(first | (with_reducible exact rfl) | (first | (go_at_call 16;(with_reducible refine (TPg.out _ (PB.out.step hw'.bel)).mono ?_);rintro e w9 ⟨rfl,rfl⟩;exact ⟨rfl,hw'⟩) | (go_at_call 28;(with_reducible refine (TFr.out _ (PB.out.step hw'.bel)).mono ?_);rintro e w9 ⟨rfl,rfl⟩;exact ⟨rfl,hw'⟩) | (go_at_call 29;(with_reducible refine (TSt.out _ (PB.out.step hw'.bel)).mono ?_);rintro e w9 ⟨rfl,hb⟩;exact ⟨rfl,Cls.step hw' hb⟩) | (go_at_call 30;(with_reducible refine (THo.out _ (PB.out.step hw'.bel)).mono ?_);rintro e w9 ⟨rfl,hb⟩;exact ⟨rfl,Cls.step hw' hb⟩) | (go_at_call 31;(with_reducible refine (TFi.out _ (PB.out.step hw'.bel)).mono ?_);rintro e w9 ⟨rfl,hb⟩;exact ⟨rfl,Cls.step hw' hb⟩)) | (obtain ⟨hc,hf⟩:=hw'.facts;go_simp;first | done | (with_reducible exact rfl) | (with_reducible exact ⟨rfl,rfl⟩))));go_big_quiet_on))
          refine wpQuiet_nil ?_
          intro wq hq
          have TC:=Lib.hid (PB.out.step hq.bel)
          clear hq
          go_wp2_with fail
          go_roundw
          case rel=>exact ⟨i+1,p,q,r,xb3,yb3,P3,hin,by first | rw [WPI.out] | exact rfl,rfl,rfl,TC.out.pq,LVT.out,HTT.out⟩
          case measure=>first | exact MS.out | (rw [WPI.out];exact MS.out)
   ·obtain rfl:i=N:=by omega
    have i1:decide ((i:Int)<(i:Int))=false:=decide_eq_false (by omega)
    go_wp2_with (go_at_call 21;refine (TS.out _).mono ?_;rintro e w1 ⟨rfl,rfl⟩)
    go_ret
    exact ⟨rfl,HT.out.bel⟩
 ·have POn:=Lib.hid (fun gd w1=>pool_Open_no gd fr hm w1)
  have ROn:=Lib.hid (fun rd w1=>ref_OpenPool_no rd fr hm w1)
  clear hm HA HIN
  go_enter Tryz.func4,Tryz.ntmps4
  go_wp2_with fail
  refine (disk_New w).mono ?_
  rintro e w1 ⟨gd,b0,rfl,hp,ht1⟩
  go_wp2_with fail
  refine (refd_New w1).mono ?_
  rintro e w2 ⟨rd,c0,rfl,hq,ht2⟩
  have HB:=Lib.hid (bel_step ht1.belowN ht2.belowN ht1.size)
  clear hp ht1 hq ht2
  go_wp2_with (first | (go_at_call 7;refine (POn.out _ _).mono ?_;rintro e w1 ⟨rfl,rfl⟩) | (go_at_call 19;refine (ROn.out _ _).mono ?_;rintro e w1 ⟨rfl,rfl⟩) | (go_at_call 20;refine (law_numS _ _).mono ?_;rintro e w1 ⟨rfl,rfl⟩))
  go_loopw [7,11] (fun v7 v11 wr=>v7 = .pointer none∧v11 = .int .i64 0∧wr=w2) (fun _ _ _=>0)
  case atStart=>exact ⟨rfl,rfl,rfl⟩
  case round =>
   obtain ⟨rfl,rfl,rfl⟩:=hrel
   by_cases h0:N=0
   ·subst h0
    go_wp2_with (go_at_call 21;refine (TS.out _).mono ?_;rintro e w1 ⟨rfl,rfl⟩)
    go_ret
    exact ⟨rfl,HB.out⟩
   ·have h1:0<N:=by omega
    go_wp2_with (go_at_call 21;refine (TS.out _).mono ?_;rintro e w1 ⟨rfl,rfl⟩)
    go_ret
    exact ⟨rfl,HB.out⟩
end Go.Proofs.YtjihboddejaelaaGreat
