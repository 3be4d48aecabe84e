/-
  The reference's Checkpoint.
-/
import Derived.Test.YtjihboddejaelaaGreatPr15
import Derived.Test.YtjihboddejaelaaGreatPr16
set_option linter.unusedVariables false
set_option linter.unusedSimpArgs false
namespace Go.Proofs.YtjihboddejaelaaGreat
open Go.RowKit
open Go.BigFrame
theorem put1_fitL {L:Lg} {X:Dk} {m:Nat} (h:Fit X (70000-min m 65537)):Fit (L.put1 X m) (70000-min (m+1) 65537):=by
 unfold Lg.put1
 split
 ·by_cases hm:m<65537
  ·have h2:Fit X ((70000-min (m+1) 65537)+1):=h.less (by omega)
   exact h2.write _ _ _
  ·have hF:∀ s:ByteArray,¬ fitsF 0 (1024*m:Nat) s.size:=fun s=>by unfold fitsF;omega
   unfold Dk.write;rw [if_neg (hF _)];exact h.less (by omega)
 ·exact h.less (by omega)
structure QAt (L:Lg) (m:Nat) (X:Dk):Prop where
 le:m≤L.pages
 goes:L.puts L.pages 0 L.D=L.puts (L.pages-m) m X
 down:X.down=false
 fit:Fit X (70000-min m 65537)
theorem put1_downL {L:Lg} {X:Dk} (hd:X.down=false) (m:Nat) (he:L.put1E X m=0):(L.put1 X m).down=false:=by
 unfold Lg.put1E at he
 unfold Lg.put1
 split
 ·rename_i hl
  rw [if_pos hl] at he
  exact write_down hd he
 ·exact hd
theorem QAt.next {L:Lg} {X:Dk} {m:Nat} (h:QAt L m X) (hm:m<L.pages) (he:L.put1E X m=0):QAt L (m+1) (L.put1 X m):=by
 refine ⟨hm, ?_,put1_downL h.down m he,put1_fitL h.fit⟩
 rw [h.goes,show L.pages-m=(L.pages-(m+1))+1 by omega,Lg.puts,if_pos he]
theorem QAt.stop {L:Lg} {X:Dk} {m:Nat} (h:QAt L m X) (hm:m<L.pages) (he:L.put1E X m≠0):L.puts L.pages 0 L.D=(L.put1 X m,L.put1E X m):=by
 rw [h.goes,show L.pages-m=(L.pages-(m+1))+1 by omega,Lg.puts,if_neg he]
theorem QAt.last {L:Lg} {X:Dk} {m:Nat} (h:QAt L m X) (hm:m=L.pages):L.puts L.pages 0 L.D=(X,0):=by
 rw [h.goes,show L.pages-m=0 by omega,Lg.puts]
set_option maxRecDepth 100000 in
set_option maxHeartbeats 12800000 in
theorem ref_Checkpoint (b:List (Option Nat)) (rd r:Nat) (c:List (Option Nat)) (L:Lg) (w:World) (h:LQ w b rd r c L) (hfit:Fit L.D 70000) (hd:L.D.down=false) (hs:L.slot<2) (hnum:L.number<4) (hp:L.pages≤4294967296) (hlen:L.fs.length≤100000) (htx:∀ f∈L.fs,f.text.size≤1024) :
 Calls Tryz.prog 162 #[.pointer (some ⟨r,0,none⟩)] w (QPost w b rd r c L.checkpoint.1 (.int .i64 L.checkpoint.2)):=by
 have HL:=Lib.hid h
 obtain ⟨x0,x2,x3,x4,x5,xz,xf⟩:=h.cells
 obtain ⟨A,k0,x1,_,_⟩:=h.frames
 have HD:=Lib.hid (h.below (Below.refl _ _).drew)
 have TD:=Lib.hid (Turn.below (b++c) (Below.refl w.heap.size w).drew)
 by_cases h1:L.fs.length≠L.kept
 ·have e1:L.checkpoint=(L,11):=if_pos h1
  rw [e1]
  have t1:((L.fs.length:Int) != (L.kept:Int))=true:=by rw [bne_iff_ne];omega
  clear h hfit htx h1
  go_enter Tryz.func162,Tryz.ntmps162
  go_wp2_with fail
  go_region
  go_wp2_with fail
  go_ret
  exact ⟨rfl,b,c,HD.out,TD.out⟩
 ·have h1':L.fs.length=L.kept:=Classical.byContradiction h1
  have t1:((L.fs.length:Int) != (L.kept:Int))=false:=by rw [bne_eq_false_iff_eq];omega
  by_cases h2:L.kept=0
  ·have e1:L.checkpoint=(L,0):=(if_neg h1).trans (if_pos h2)
   rw [e1]
   have t2:((L.kept:Int) == 0)=true:=by simp;exact h2
   clear h hfit htx h1 h1' h2
   go_enter Tryz.func162,Tryz.ntmps162
   go_wp2_with fail
   go_region
   go_wp2_with fail
   go_ret
   exact ⟨rfl,b,c,HD.out,TD.out⟩
  ·have t2:((L.kept:Int) == 0)=false:=by rw [beq_eq_false_iff_ne];omega
   have EC:=Lib.hid (show L.checkpoint=if (L.puts L.pages 0 L.D).2≠0 then ({ L with D:=(L.puts L.pages 0 L.D).1 },(L.puts L.pages 0 L.D).2) else L.check3 (L.puts L.pages 0 L.D).1 from (if_neg h1).trans (if_neg h2))
   have HF:=Lib.hid hfit
   have HP:=Lib.hid hp
   have HLEN:=Lib.hid hlen
   have HTX:=Lib.hid htx
   have HDN:=Lib.hid hd
   have H1:=Lib.hid h1'
   have QS:=Lib.hid (show QAt L 0 L.D from ⟨Nat.zero_le _,rfl,hd,hfit.less (by omega)⟩)
   clear h hfit htx h1 h1' h2 hp hlen hd
   go_enter Tryz.func162,Tryz.ntmps162
   go_wp2_with fail
   go_region
   go_wp2_with fail
   go_loopw [3] (fun v3 wr=>∃ (m:Nat) (X:Dk) (b':List (Option Nat)),v3 = .int .i64 m∧QAt L m X∧LQ wr b' rd r c { L with D:=X }∧Turn (b++c) (b'++c) w wr) (fun v3 _=>L.pages-(intOf v3).toNat)
   case atStart=>exact ⟨0,L.D,b,rfl,QS.out,HD.out,TD.out⟩
   case round =>
    obtain ⟨m,X,b',rfl,hQ,hl,ht⟩:=hrel
    have HQ:=Lib.hid hQ
    have HR:=Lib.hid hl
    have HT:=Lib.hid ht
    clear hQ hl ht HL HD TD QS x0 x1 x2 x3 x4 x5 xz xf
    obtain ⟨x0,x2,x3,x4,x5,xz,xf⟩:=HR.out.cells
    dsimp only at x2 x3
    have xd:=HR.out.disk.cells.1
    rw [show ({ L with D:=X }:Lg).D=X from rfl,HQ.out.down] at xd
    by_cases hm:m<L.pages
    ·have mi:(m:Int)<(L.pages:Int):=by omega
     obtain ⟨A1,m1,x1,_,hFS⟩:=HR.out.frames
     dsimp only at x1 hFS
     have HFS:=Lib.hid hFS
     have HLK:=Lib.hid (show LQ wr b' rd r c { L with D:=X } from HR.out)
     have mb:m≤4294967296:=by have:=HP.out;omega
     have kb:L.fs.length≤100000:=HLEN.out
     have kb2:L.kept≤100000:=by have:=H1.out;omega
     clear hFS
     go_wp2_with fail
     go_loopw [4] (fun v4 wr2=>∃ j:Nat,j≤L.fs.length∧v4 = .int .i64 ((j:Int)-1)∧LateNot L.fs j m∧wr2=wr) (fun v4 _=>(intOf v4+1).toNat)
     case atStart=>exact ⟨L.fs.length,Nat.le_refl _,by rw [H1.out],fun i f hi hf=>by have:=(List.getElem?_eq_some_iff.1 hf).1;omega,rfl⟩
     case round =>
      obtain ⟨j,hj,rfl,hlate,rfl⟩:=hrel
      have HLT:=Lib.hid hlate
      clear hlate
      by_cases hj0:j=0
      ·have L0:=lastAt_late L.fs m fun i f hf=>HLT.out i f (by omega) hf
       have e1:L.put1 X m=X:=if_neg (fun h=>h L0)
       have N1:=Lib.hid (HQ.out.next hm (if_neg (fun h=>h L0)))
       rw [e1] at N1
       subst hj0
       clear L0 e1
       go_wp2_with fail
       go_roundw
       case rel=>exact ⟨m+1,X,b',by simp,N1.out,HR.out,HT.out⟩
       case measure=>simp [intOf];omega
      ·obtain ⟨i,rfl⟩:∃ i,j=i+1:=⟨j-1,by omega⟩
       have hi:i<L.fs.length:=by omega
       obtain ⟨f,hf⟩:∃ f,L.fs[i]? = some f:=⟨_,List.getElem?_eq_getElem hi⟩
       obtain ⟨bk,off,rfl,hbz,hcc⟩:=HFS.out.2 (by omega)
       obtain ⟨q0,q1⟩:=hcc i f hf
       have HFF:=Lib.hid hf
       rw [show (((i+1:Nat):Int)-1)=(i:Int) by omega]
       clear hcc hf hj0 hj
       by_cases hx:f.n=m
       ·have L0:=lastAt_found L.fs i m f HFF.out (by omega) HLT.out
        have hL:lastAt L.fs m≠0:=by rw [L0];omega
        have g1:((L.fs[lastAt L.fs m-1]?).map (·.text)).getD ⟨#[]⟩=f.text:=by rw [L0,show i+1-1=i from rfl,HFF.out];rfl
        have PE:L.put1E X m=X.writeE 0 (1024*m:Nat) f.text:=by unfold Lg.put1E;rw [if_pos hL,g1]
        have PD:L.put1 X m=X.write 0 (1024*m:Nat) f.text:=by unfold Lg.put1;rw [if_pos hL,g1]
        have htz:=HTX.out f (List.mem_of_getElem? HFF.out)
        have WT:=Lib.hid (refd_Write rd X b' 0 (1024*m:Nat) f.text _ (HR.out.disk.below (Below.refl _ _).drew) HQ.out.fit.ok (by have:=HQ.out.fit.count;omega) (by have:=HQ.out.fit.waits;omega) (by omega))
        rw [← PE,← PD] at WT
        have N1:=Lib.hid (HQ.out.next hm)
        have N2:=Lib.hid (HQ.out.stop hm)
        obtain ⟨E,hE⟩:∃ E,L.put1E X m=E:=⟨_,rfl⟩
        obtain ⟨X',hX⟩:∃ E,L.put1 X m=E:=⟨_,rfl⟩
        rw [hE,hX] at WT N1 N2
        rw [show ((1024*m:Nat):Int)=IntKind.i64.wrap (1024*(m:Int)) from (Int.natCast_mul _ _).trans (IntWalk.i64_in _ (by omega)).symm] at WT
        have e1:(f.n:Int)=(m:Int):=by omega
        rw [e1] at q0
        clear L0 hL g1 PE PD htz hE hX hx
        by_cases hE0:E=0
        ·subst hE0
         go_wp2_with fail
         go_region_with ((go_at_call 200;(with_reducible refine WT.out.mono ?_);rintro e w2 ⟨rfl,b2,hd2,ht2⟩;obtain ⟨hl2,hu2⟩:=(HR.out.below (Below.refl _ _).drew).onDisk hd2 ht2;have HL2:=Lib.hid hl2;have HT2:=Lib.hid ((HT.out.trans (Turn.below _ (Below.refl _ _).drew)).trans hu2);clear hd2 ht2 hl2 hu2))
         all_goals
          go_wp2_with fail
          go_roundw
          case rel=>exact ⟨m+1,X',b2,by simp,N1.out (by trivial),HL2.out,HT2.out⟩
          case measure=>simp [intOf];omega
        ·have NE:=Lib.hid (N2.out hE0)
         go_wp2_with fail
         go_region_with ((go_at_call 200;(with_reducible refine WT.out.mono ?_);rintro e w2 ⟨rfl,b2,hd2,ht2⟩;obtain ⟨hl2,hu2⟩:=(HR.out.below (Below.refl _ _).drew).onDisk hd2 ht2;have HL2:=Lib.hid hl2;have HT2:=Lib.hid ((HT.out.trans (Turn.below _ (Below.refl _ _).drew)).trans hu2);clear hd2 ht2 hl2 hu2))
         all_goals
          go_wp2_with fail
          go_ret
          rw [EC.out,NE.out,if_pos hE0]
          exact ⟨rfl,b2,c,HL2.out,HT2.out⟩
       ·have e1:((f.n:Int) == (m:Int))=false:=by rw [beq_eq_false_iff_ne];omega
        go_wp2_with fail
        go_roundw
        case rel=>exact ⟨i,by omega,rfl,fun j g hj hg=>by
         rcases Nat.eq_or_lt_of_le hj with e | e
         ·subst e;rw [HFF.out] at hg;cases hg;omega
         ·exact HLT.out j g e hg,by trivial⟩
        case measure=>simp [intOf]
    ·have hm2:m=L.pages:=by have:=HQ.out.le;omega
     have R1:=Lib.hid (show L.checkpoint=L.check3 X by rw [EC.out,HQ.out.last hm2,if_neg (fun h=>h rfl)])
     have mi:¬ ((m:Int)<(L.pages:Int)):=by omega
     have fX:Fit X 4:=HQ.out.fit.less (by omega)
     have CT:=Lib.hid (refd_Cut rd X b' 0 (1024*L.pages:Nat) _ (HR.out.disk.below (Below.refl _ _).drew) fX.ok (by have:=fX.count;omega) (by have:=fX.waits;omega))
     have f1:Fit (X.cutD 0 (1024*L.pages:Nat)) 3:=fX.cut _ _
     have TS:=Lib.hid (fun b1 w1 (h1:RP w1 b1 rd (X.cutD 0 (1024*L.pages:Nat)))=>refd_Sync rd (X.cutD 0 (1024*L.pages:Nat)) b1 0 w1 h1 f1.ok (by have:=f1.count;omega) (by have:=f1.waits;omega))
     rw [show (X.cutD 0 (1024*L.pages:Nat)).syncE 0=(X.cutD 0 (1024*L.pages:Nat)).turnE from syncE_fits (f:=0) (by omega)] at TS
     have TT:=Lib.hid (fun b1 c1 w1 (h1:LQ w1 b1 rd r c1 ({ L with D:=(X.cutD 0 (1024*L.pages:Nat)).sync 0 }:Lg))=>ref_tell b1 rd r c1 ({ L with D:=(X.cutD 0 (1024*L.pages:Nat)).sync 0 }:Lg) 0 L.pages w1 h1 (show Fit ((X.cutD 0 (1024*L.pages:Nat)).sync 0) 2 from f1.sync 0) hs hnum (by omega) (by have:=HP.out;omega))
     rw [show ((0:Nat):Int)=0 from rfl] at TT
     have CA:=Lib.hid (show X.cutE 0 (1024*L.pages:Nat)≠0→L.check3 X=({ L with D:=X.cutD 0 (1024*L.pages:Nat) },X.cutE 0 (1024*L.pages:Nat)) from fun h=>if_pos h)
     have CB:=Lib.hid (show ¬ (X.cutE 0 (1024*L.pages:Nat)≠0)→(X.cutD 0 (1024*L.pages:Nat)).stops→L.check3 X=({ L with D:=(X.cutD 0 (1024*L.pages:Nat)).sync 0 },2)∧(X.cutD 0 (1024*L.pages:Nat)).turnE=2 from fun h1 h2=>⟨(if_neg h1).trans (if_pos h2),if_pos h2⟩)
     have CC:=Lib.hid (show ¬ (X.cutE 0 (1024*L.pages:Nat)≠0)→¬ (X.cutD 0 (1024*L.pages:Nat)).stops→L.check3 X=(if ({ L with D:=(X.cutD 0 (1024*L.pages:Nat)).sync 0 }:Lg).tellE 0 L.pages=0 then ({ ({ L with D:=(X.cutD 0 (1024*L.pages:Nat)).sync 0 }:Lg).tell 0 L.pages with fs:=[] },0) else (({ L with D:=(X.cutD 0 (1024*L.pages:Nat)).sync 0 }:Lg).tell 0 L.pages,({ L with D:=(X.cutD 0 (1024*L.pages:Nat)).sync 0 }:Lg).tellE 0 L.pages))∧(X.cutD 0 (1024*L.pages:Nat)).turnE=0 from fun h1 h2=>⟨(if_neg h1).trans (if_neg h2),if_neg h2⟩)
     obtain ⟨E,hE⟩:∃ E,X.cutE 0 (1024*L.pages:Nat)=E:=⟨_,rfl⟩
     obtain ⟨D1,hD1⟩:∃ E,X.cutD 0 (1024*L.pages:Nat)=E:=⟨_,rfl⟩
     rw [hE,hD1] at CT CA
     rw [hE,hD1] at CB CC
     rw [hD1] at TS TT
     rw [show ((1024*L.pages:Nat):Int)=IntKind.i64.wrap (1024*(L.pages:Int)) from (Int.natCast_mul _ _).trans (IntWalk.i64_in _ (by have:=HP.out;omega)).symm] at CT
     clear hE hD1 fX f1 hm hm2
     by_cases hE0:E≠0
     ·have CX:=Lib.hid (CA.out hE0)
      clear CA CB CC TS TT
      go_wp2_with fail
      go_region_with ((go_at_call 199;(with_reducible refine CT.out.mono ?_);rintro e w2 ⟨rfl,b2,hd2,ht2⟩;obtain ⟨hl2,hu2⟩:=(HR.out.below (Below.refl _ _).drew).onDisk hd2 ht2;have HL2:=Lib.hid hl2;have HT2:=Lib.hid ((HT.out.trans (Turn.below _ (Below.refl _ _).drew)).trans hu2);clear hd2 ht2 hl2 hu2))
      all_goals
       go_wp2_with fail
       go_ret
       rw [R1.out,CX.out]
       exact ⟨rfl,b2,c,HL2.out,HT2.out⟩
     ·have hE1:E=0:=Classical.byContradiction hE0
      by_cases hst:D1.stops
      ·have CX:=Lib.hid (CB.out hE0 hst)
       rw [CX.out.2] at TS
       subst hE1
       clear CA CB CC TT hst hE0
       go_wp2_with fail
       go_region_with ((go_at_call 199;(with_reducible refine CT.out.mono ?_);rintro e w2 ⟨rfl,b2,hd2,ht2⟩;obtain ⟨hl2,hu2⟩:=(HR.out.below (Below.refl _ _).drew).onDisk hd2 ht2;have HL2:=Lib.hid hl2;have HT2:=Lib.hid ((HT.out.trans (Turn.below _ (Below.refl _ _).drew)).trans hu2);clear hd2 ht2 hl2 hu2))
       all_goals
        obtain ⟨y0,_,_,_,_,yz,_⟩:=HL2.out.cells
        go_wp2_with ((go_at_call 152;(with_reducible refine (TS.out _ _ HL2.out.disk).mono ?_);rintro e w3 ⟨rfl,b3,hd3,ht3⟩;obtain ⟨hl3,hu3⟩:=HL2.out.onDisk hd3 ht3;have HL3:=Lib.hid hl3;have HT3:=Lib.hid (HT2.out.trans hu3);obtain ⟨v0,_,v3,_,_,vz,_⟩:=hl3.cells;dsimp only at v3;clear hd3 ht3 hl3 hu3))
        go_ret
        rw [R1.out,CX.out.1]
        exact ⟨rfl,b3,c,HL3.out,HT3.out⟩
      ·have CX:=Lib.hid (CC.out hE0 hst)
       rw [CX.out.2] at TS
       subst hE1
       obtain ⟨F,hF⟩:∃ F,({ L with D:=D1.sync 0 }:Lg).tellE 0 L.pages=F:=⟨_,rfl⟩
       obtain ⟨M,hM⟩:∃ M,({ L with D:=D1.sync 0 }:Lg).tell 0 L.pages=M:=⟨_,rfl⟩
       rw [hF,hM] at TT CX
       clear CA CB CC hst hE0 hF hM
       by_cases hF0:F=0
       ·have CY:=Lib.hid (CX.out.1.trans (if_pos hF0))
        subst hF0
        clear CX
        go_wp2_with fail
        go_region_with ((go_at_call 199;(with_reducible refine CT.out.mono ?_);rintro e w2 ⟨rfl,b2,hd2,ht2⟩;obtain ⟨hl2,hu2⟩:=(HR.out.below (Below.refl _ _).drew).onDisk hd2 ht2;have HL2:=Lib.hid hl2;have HT2:=Lib.hid ((HT.out.trans (Turn.below _ (Below.refl _ _).drew)).trans hu2);clear hd2 ht2 hl2 hu2))
        all_goals
         obtain ⟨y0,_,_,_,_,yz,_⟩:=HL2.out.cells
         go_wp2_with (first | (go_at_call 152;(with_reducible refine (TS.out _ _ HL2.out.disk).mono ?_);rintro e w3 ⟨rfl,b3,hd3,ht3⟩;obtain ⟨hl3,hu3⟩:=HL2.out.onDisk hd3 ht3;have HL3:=Lib.hid hl3;have HT3:=Lib.hid (HT2.out.trans hu3);obtain ⟨v0,_,v3,_,_,vz,_⟩:=hl3.cells;dsimp only at v3;clear hd3 ht3 hl3 hu3) | (go_at_call 153;(with_reducible refine (TT.out _ _ _ HL3.out).mono ?_);rintro e w4 ⟨rfl,b4,c4,hl4,ht4⟩;have HL4:=Lib.hid hl4;have HT4:=Lib.hid (HT3.out.trans ht4);obtain ⟨A4,k4,u1,_,_⟩:=hl4.frames;have uz:=hl4.cells.2.2.2.2.2.1;have uf:=hl4.cells.2.2.2.2.2.2;clear hl4 ht4))
         go_ret
         obtain ⟨c5,q1,q2⟩:=HL4.out.newFrames (v':=.slice none 0 0) (fs':=[]) (Below.refl _ _) (World.ownsRow_nil _ _ _ _)
         rw [R1.out,CY.out]
         exact ⟨rfl,b4,c5,q1,HT4.out.trans q2⟩
       ·have CY:=Lib.hid (CX.out.1.trans (if_neg hF0))
        clear CX
        go_wp2_with fail
        go_region_with ((go_at_call 199;(with_reducible refine CT.out.mono ?_);rintro e w2 ⟨rfl,b2,hd2,ht2⟩;obtain ⟨hl2,hu2⟩:=(HR.out.below (Below.refl _ _).drew).onDisk hd2 ht2;have HL2:=Lib.hid hl2;have HT2:=Lib.hid ((HT.out.trans (Turn.below _ (Below.refl _ _).drew)).trans hu2);clear hd2 ht2 hl2 hu2))
        all_goals
         obtain ⟨y0,_,_,_,_,yz,_⟩:=HL2.out.cells
         go_wp2_with (first | (go_at_call 152;(with_reducible refine (TS.out _ _ HL2.out.disk).mono ?_);rintro e w3 ⟨rfl,b3,hd3,ht3⟩;obtain ⟨hl3,hu3⟩:=HL2.out.onDisk hd3 ht3;have HL3:=Lib.hid hl3;have HT3:=Lib.hid (HT2.out.trans hu3);obtain ⟨v0,_,v3,_,_,vz,_⟩:=hl3.cells;dsimp only at v3;clear hd3 ht3 hl3 hu3) | (go_at_call 153;(with_reducible refine (TT.out _ _ _ HL3.out).mono ?_);rintro e w4 ⟨rfl,b4,c4,hl4,ht4⟩;have HL4:=Lib.hid hl4;have HT4:=Lib.hid (HT3.out.trans ht4);obtain ⟨A4,k4,u1,_,_⟩:=hl4.frames;have uz:=hl4.cells.2.2.2.2.2.1;have uf:=hl4.cells.2.2.2.2.2.2;clear hl4 ht4))
         go_ret
         rw [R1.out,CY.out]
         exact ⟨rfl,b4,c4,HL4.out,HT4.out⟩
end Go.Proofs.YtjihboddejaelaaGreat
