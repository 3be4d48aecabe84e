/-
  The reference's OpenLog, over a disk that does not fail.
-/
import Derived.Test.YtjihboddejaelaaGreatPr19
import Derived.Test.YtjihboddejaelaaGreatPr15
set_option linter.unusedVariables false
set_option linter.unusedSimpArgs false
namespace Go.Proofs.YtjihboddejaelaaGreat
open Go.RowKit
open Go.BigFrame
theorem ob_appF {w w':World} {r rd kept pages slot number:Nat} {fs:List Fr} {v v':Value} {f:Fr} {o:Obj}
 (h:Ob w r 74 (qCells rd v kept pages slot number) [rowF v fs])
 (hown:w'.ownsRow 0 207 2 v' (fs.length+1) (frCells fs++f.cells)) (hg:(w.drew.alloc o).grownBy w' v.ownBlock) (hat:v'.ownBlock=v.ownBlock∨v'.ownBlock=some (w.drew.alloc o).heap.size) :
 Ob w' r 74 (qCells rd v kept pages slot number) [rowF v' (fs++[f])]∧Turn (blks r [rowF v fs]) (blks r [rowF v' (fs++[f])]) w w':=by
 have hb:Below w.heap.size w (w.drew.alloc o):=(Below.refl _ _).drew.alloc (Nat.le_refl _) _
 have:=(h.below hb).row 0 (r:=rowF v fs) (r':=rowF v' (fs++[f])) rfl hg (by
  show w'.ownsRow 0 207 2 v' (fs++[f]).length (frCells (fs++[f]))
  rw [frCells_snoc,List.length_append];exact hown) (hat.imp id fun e k hk=>by
   have hk2:v'.ownBlock=some k:=hk
   rw [e] at hk2;cases hk2;exact Nat.le_refl _)
 exact ⟨this.1,(Turn.below _ hb).trans this.2⟩
theorem lq_app {w w':World} {b:List (Option Nat)} {rd r:Nat} {D:Dk} {kept pages slot number:Nat} {fs:List Fr} {v v':Value} {f:Fr} (hd:RP w b rd D) (hj:Disj b (blks r [rowF v fs]))
 (ho:Ob w' r 74 (qCells rd v kept pages slot number) [rowF v' (fs++[f])]) (ht:Turn (blks r [rowF v fs]) (blks r [rowF v' (fs++[f])]) w w') :
 LQ (w'.setCell ⟨r,1,none⟩ v') b rd r (blks r [rowF v' (fs++[f])]) ⟨D,fs++[f],kept,pages,slot,number⟩∧Turn (b++blks r [rowF v fs]) (b++blks r [rowF v' (fs++[f])]) w (w'.setCell ⟨r,1,none⟩ v'):=by
 have t2:=ht.trans (Turn.set r [rowF v' (fs++[f])] 1 v' w')
 have q1:=hd.turn t2 hj.symm
 refine ⟨⟨q1,⟨v',rfl,ho.set 1 v'⟩,fun k hk h2=>?_⟩,t2.right b⟩
 rcases t2.new k h2 with h3 | h3
 ·exact hj k hk h3
 ·have:=hd.lt hk;omega
def OpenPostR (w:World) (b:List (Option Nat)) (rd:Nat) (L:Lg) (e:Ending) (w':World):Prop :=
 ∃ r b' c,e = .returned (.tuple #[.pointer (some ⟨r,0,none⟩),.int .i64 0])∧LQ w' b' rd r c L∧Turn b (b'++c) w w'
theorem open_startR (b:List (Option Nat)) (rd p0:Nat) (D:Dk) (w:World) (h:RP w b rd D) :
 LQ (w.alloc (.cells #[.pointer (some ⟨rd,0,none⟩),.slice none 0 0,.int .i64 0,.int .i64 p0,.int .i64 0,.int .i64 0] 74)) b rd w.heap.size (blks w.heap.size [rowF (.slice none 0 0) []]) ⟨D,[],0,p0,0,0⟩ ∧
 Turn b (b++blks w.heap.size [rowF (.slice none 0 0) []]) w (w.alloc (.cells #[.pointer (some ⟨rd,0,none⟩),.slice none 0 0,.int .i64 0,.int .i64 p0,.int .i64 0,.int .i64 0] 74)):=by
 have hb:=(Below.refl w.heap.size w).alloc (Nat.le_refl _) (.cells #[.pointer (some ⟨rd,0,none⟩),.slice none 0 0,.int .i64 0,.int .i64 p0,.int .i64 0,.int .i64 0] 74)
 have hk:∀ k,some k∈blks w.heap.size [rowF (.slice none 0 0) []]→k=w.heap.size:=fun k hk=>by
  rcases List.mem_cons.1 hk with e | h2
  ·cases e;rfl
  ·simp [rowF,Value.ownBlock] at h2
 refine ⟨⟨h.below hb,⟨.slice none 0 0,rfl,⟨Has.new _ _ _,fun x hx=>?_, ?_⟩⟩,fun k hk2 h3=>?_⟩,(Turn.below b hb).trans' (Turn.refl [] _) (fun k h2=>by cases h2) (fun k h2=>?_)⟩
 ·rw [List.mem_singleton.1 hx];exact World.ownsRow_nil _ _ _ _
 ·refine List.pairwise_cons.2 ⟨fun y hy k e=>?_,List.pairwise_singleton _ _⟩
  simp only [List.map_cons,List.map_nil,List.mem_singleton] at hy
  rw [hy];exact fun h2=>by cases h2
 ·have:=hk k h3;have:=h.lt hk2;omega
 ·rcases List.mem_append.1 h2 with h3 | h3
  ·exact .inl h3
  ·exact .inr (Nat.le_of_eq (hk k h3).symm)
set_option maxRecDepth 100000 in
set_option maxHeartbeats 12800000 in
theorem ref_OpenLog (b:List (Option Nat)) (rd:Nat) (D:Dk) (w:World) (h:RP w b rd D) (hfit:Fit D 4) (hc:D.calm) :
 Calls Tryz.prog 64 #[.pointer (some ⟨rd,0,none⟩)] w (OpenPostR w b rd (Lg.opened D)):=by
 have l0:=hfit.ok.seen 0
 have l1:=hfit.ok.seen 1
 have S0:=Lib.hid (fun w1 (h1:RP w1 b rd D)=>refd_Seen rd D b 0 w1 h1 hfit.ok (by omega) (by have:=hfit.waits;omega))
 have S1:=Lib.hid (fun w1 (h1:RP w1 b rd D)=>refd_Seen rd D b 1 w1 h1 hfit.ok (by omega) (by have:=hfit.waits;omega))
 have xd:=h.cells.1
 have xz:=h.cells.2.2.2
 rw [hc.1] at xd
 obtain ⟨n0,hn0⟩:∃ n,(D.seen 0).length=n:=⟨_,rfl⟩
 obtain ⟨s0,hs0⟩:∃ s,bsOf (D.seen 0)=s:=⟨_,rfl⟩
 obtain ⟨l,hl⟩:∃ l,D.seen 1=l:=⟨_,rfl⟩
 obtain ⟨s,hs⟩:∃ s,bsOf l=s:=⟨_,rfl⟩
 have hz0:s0.size=n0:=by rw [← hs0,bsOf_size,hn0]
 have hz:s.size=l.length:=by rw [← hs,bsOf_size]
 have ht:s.data.toList=l:=by rw [← hs,bsOf_list]
 rw [hs0,show ((0:Nat):Int)=0 from rfl] at S0
 rw [hl,hs,show ((1:Nat):Int)=1 from rfl] at S1
 rw [hl] at l1
 rw [hn0] at l0
 rw [← hz] at l1
 obtain ⟨p0,hp0⟩:∃ p,n0 / 1024=p:=⟨_,rfl⟩
 have wr0:wrap64 ((s0.size:Int) / 1024)=(p0:Int):=(IntWalk.wrap64_in _ (by omega)).trans (by omega)
 have L1:=Lib.hid l1
 have SL:=Lib.hid (fun (k:Nat) (hk:k<2) w1=>ref_slotOf s k hk l1 w1)
 rw [ht] at SL
 have HF:=Lib.hid hfit
 have HC:=Lib.hid hc
 have HL:=Lib.hid h
 have HS:=Lib.hid hs
 have HLL:=Lib.hid hl
 have HZ:=Lib.hid hz
 have N0:=Lib.hid (show (D.seen 0).length / 1024=p0 by rw [hn0,hp0])
 have P1:=Lib.hid (show p0≤65536 by omega)
 have OP:=Lib.hid (fun w1 (h1:RP w1 b rd D)=>open_startR b rd p0 D w1 h1)
 clear hn0 hs0 hl hs hz0 hz ht hp0 l0 l1 h hfit hc
 go_enter Tryz.func64,Tryz.ntmps64
 go_upto_region 4 with (go_at_call 93;(with_reducible refine (S0.out _ HL.out).mono ?_);rintro e w1 ⟨rfl,hb1⟩;have HB1:=Lib.hid hb1)
 have OQ:=Lib.hid (OP.out w1 (HL.out.below HB1.out))
 clear OP wr0
 obtain ⟨W,hW⟩:∃ W,(w1.alloc (.cells #[.pointer (some ⟨rd,0,none⟩),.slice none 0 0,.int .i64 0,.int .i64 p0,.int .i64 0,.int .i64 0] 74))=W:=⟨_,rfl⟩
 obtain ⟨r,hr⟩:∃ r,w1.heap.size=r:=⟨_,rfl⟩
 rw [hW,hr] at OQ
 rw [hW,hr]
 have TQ:=Lib.hid ((Turn.below b HB1.out).trans OQ.out.2)
 have HQ:=Lib.hid OQ.out.1
 clear OQ hW hr
 obtain ⟨c0,hc0⟩:∃ c,blks r [rowF (.slice none 0 0) []]=c:=⟨_,rfl⟩
 rw [hc0] at TQ HQ
 clear hc0 xd xz
 have AN:=Lib.hid (fun b1 c1 w1 (h1:LQ w1 b1 rd r c1 ⟨D,[],0,p0,0,0⟩)=>ref_anew b1 rd r c1 _ w1 h1 HF.out HC.out (show p0≤_ by have:=P1.out;omega))
 obtain ⟨x0,x2,x3,x4,x5,xz,xf⟩:=HQ.out.cells
 by_cases hm:l.take 16=markL
 ·have e16:s.extract 0 16=⟨#[114,101,108,115,116,111,114,101,32,108,111,103,32,48,48,49]⟩:=by
   rw [← HS.out,extr_part,bsOf_list];show bsOf (partL l 0 16)=_
   rw [partL_zero,hm];rfl
  have z16:16≤s.size:=by
   have h1:(l.take 16).length=16:=by rw [hm];rfl
   have:=HZ.out
   rw [List.length_take] at h1;omega
  have SL0:=Lib.hid (SL.out 0 (by omega))
  have SL1:=Lib.hid (SL.out 1 (by omega))
  obtain ⟨⟨a,a1,a2⟩,hA⟩:∃ x,slotOf l 0=x:=⟨_,rfl⟩
  obtain ⟨⟨bb,bb1,bb2⟩,hB⟩:∃ x,slotOf l 1=x:=⟨_,rfl⟩
  rw [hA] at SL0
  rw [hB] at SL1
  simp only [SlotVal,show ((0:Nat):Int)=0 from rfl] at SL0
  simp only [SlotVal,show ((1:Nat):Int)=1 from rfl] at SL1
  have HA:=Lib.hid hA
  have HB:=Lib.hid hB
  have IX:slotIx l=if a=0∧bb=0 then 2 else if a=0∨bb≠0∧bb=a % 3+1 then 1 else 0:=by
   unfold slotIx
   rw [hA,hB]
   dsimp only
   by_cases h2:a=0∧bb=0
   ·rw [if_pos (.inr h2),if_pos h2]
   ·rw [if_neg (fun h3=>h3.elim (fun h4=>h4 hm) h2),if_neg h2]
  generalize (⟨#[114,101,108,115,116,111,114,101,32,108,111,103,32,48,48,49]⟩:ByteArray)=MK at *
  clear SL hm hA hB
  by_cases ha:a=0
  ·have ta:((a:Int) == 0)=true:=by simp;exact ha
   by_cases hb0:bb=0
   ·have tb:((bb:Int) == 0)=true:=by simp;exact hb0
    have HIX:slotIx l=2:=by rw [IX,if_pos ⟨ha,hb0⟩]
    clear IX ha hb0
    have ER:=Lib.hid (show Lg.opened D=⟨beginD D p0 4,[],0,p0,0,1⟩ by
     have e1:Lg.opened D=⟨anewD D,[],0,(D.seen 0).length / 1024,0,1⟩:=if_pos (by rw [HLL.out];exact HIX)
     rw [e1,anewD,N0.out];rfl)
    clear HIX
    go_wp2_with (first | (go_at_call 93;(with_reducible refine (S1.out _ HQ.out.disk).mono ?_);rintro e w2 ⟨rfl,hb⟩;have HQ:=Lib.hid (HQ.out.below hb);have TQ:=Lib.hid (TQ.out.trans (Turn.below _ hb));obtain ⟨x0,x2,x3,x4,x5,xz,xf⟩:=HQ.out.cells;clear hb) | (go_at_call 146;(with_reducible refine (SL0.out _).mono ?_);rintro e w2 ⟨rfl,hb⟩;have HQ:=Lib.hid (HQ.out.below hb);have TQ:=Lib.hid (TQ.out.trans (Turn.below _ hb));obtain ⟨x0,x2,x3,x4,x5,xz,xf⟩:=HQ.out.cells;clear hb) | (go_at_call 146;(with_reducible refine (SL1.out _).mono ?_);rintro e w2 ⟨rfl,hb⟩;have HQ:=Lib.hid (HQ.out.below hb);have TQ:=Lib.hid (TQ.out.trans (Turn.below _ hb));obtain ⟨x0,x2,x3,x4,x5,xz,xf⟩:=HQ.out.cells;clear hb) | (go_at_call 147;(with_reducible refine (AN.out _ _ _ HQ.out).mono ?_);rintro e w3 ⟨rfl,b3,c3,hl3,ht3⟩;have HL3:=Lib.hid hl3;have HT3:=Lib.hid (TQ.out.trans ht3);clear hl3 ht3))
    go_ret2
    refine ⟨r,b3,c3,rfl, ?_,HT3.out⟩
    rw [ER.out]
    exact HL3.out
   ·have tb:((bb:Int) == 0)=false:=by rw [beq_eq_false_iff_ne];omega
    have HIX:slotIx l=1:=by rw [IX,if_neg (fun h2=>hb0 h2.2),if_pos (.inl ha)]
    clear IX ha hb0
    have HIX2:slotIx l≠2:=by rw [HIX];decide
    obtain ⟨G1,G2,_⟩:=slotIx_good HIX2
    obtain ⟨G3,G4,G5⟩:=slotOf_good G2
    have e1:Lg.opened D=⟨D,framesOf l (slotOf l 1).2.1,(slotOf l 1).2.1,(slotOf l 1).2.2,1,(slotOf l 1).1⟩:=by
     rw [← HIX,← HLL.out];exact if_neg (by rw [HLL.out];exact HIX2)
    rw [HIX,HB.out] at G2 G3
    rw [HIX,HB.out] at G4
    rw [HB.out] at e1
    dsimp only at G2 G3 G4 e1
    obtain ⟨kf,hkf⟩:∃ k:Nat,bb1=k:=⟨_,rfl⟩
    obtain ⟨kp,hkp⟩:∃ k:Nat,bb2=k:=⟨_,rfl⟩
    obtain ⟨nu,hnu⟩:∃ k:Nat,bb=k:=⟨_,rfl⟩
    rw [hkf,hkp,hnu] at e1
    rw [hkf] at G4
    have HKF:=Lib.hid (show kf≤100000 by have:=HZ.out;have:=L1.out;omega)
    have HKL:=Lib.hid (show ∀ k<kf,64+1028*k+1028≤s.size from fun k hk=>by have:=HZ.out;omega)
    have ER:=Lib.hid e1
    have KK1:=Lib.hid hkf;have KK2:=Lib.hid hkp;have KK3:=Lib.hid hnu
    clear HIX HIX2 G1 G2 G3 G4 G5 e1 hkf hkp hnu
    go_wp2_with (first | (go_at_call 93;(with_reducible refine (S1.out _ HQ.out.disk).mono ?_);rintro e w2 ⟨rfl,hb⟩;have HQ:=Lib.hid (HQ.out.below hb);have TQ:=Lib.hid (TQ.out.trans (Turn.below _ hb));obtain ⟨x0,x2,x3,x4,x5,xz,xf⟩:=HQ.out.cells;clear hb) | (go_at_call 146;(with_reducible refine (SL0.out _).mono ?_);rintro e w2 ⟨rfl,hb⟩;have HQ:=Lib.hid (HQ.out.below hb);have TQ:=Lib.hid (TQ.out.trans (Turn.below _ hb));obtain ⟨x0,x2,x3,x4,x5,xz,xf⟩:=HQ.out.cells;clear hb) | (go_at_call 146;(with_reducible refine (SL1.out _).mono ?_);rintro e w2 ⟨rfl,hb⟩;have HQ:=Lib.hid (HQ.out.below hb);have TQ:=Lib.hid (TQ.out.trans (Turn.below _ hb));obtain ⟨x0,x2,x3,x4,x5,xz,xf⟩:=HQ.out.cells;clear hb) | (go_at_call 146;(with_reducible refine (SL1.out _).mono ?_);rintro e w3 ⟨rfl,hb⟩;obtain ⟨q1,u1⟩:=HQ.out.set 4 (.int .i64 1) ⟨D,[],0,p0,1,0⟩ rfl rfl (fun v=>rfl);have HQ:=Lib.hid (q1.below hb);have TQ:=Lib.hid ((TQ.out.trans u1).trans (Turn.below _ hb));obtain ⟨x0,x2,x3,x4,x5,xz,xf⟩:=HQ.out.cells;clear hb q1 u1))
    rw [KK1.out,KK2.out,KK3.out]
    obtain ⟨q2,u2⟩:=HQ.out.set 5 (.int .i64 nu) ⟨D,[],0,p0,1,nu⟩ rfl rfl (fun v=>rfl)
    obtain ⟨q3,u3⟩:=q2.set 2 (.int .i64 kf) ⟨D,[],kf,p0,1,nu⟩ rfl rfl (fun v=>rfl)
    obtain ⟨q4,u4⟩:=q3.set 3 (.int .i64 kp) ⟨D,[],kf,kp,1,nu⟩ rfl rfl (fun v=>rfl)
    have HV:=Lib.hid q4
    have TV:=Lib.hid (((TQ.out.trans u2).trans u3).trans u4)
    clear q2 u2 q3 u3 q4 u4
    generalize ((w3.setCell ⟨r,5,none⟩ (.int .i64 nu)).setCell ⟨r,2,none⟩ (.int .i64 kf)).setCell ⟨r,3,none⟩ (.int .i64 kp)=V at *
    go_loopw [9] (fun v9 wr=>∃ (k:Nat) (cc:List (Option Nat)),k≤kf∧v9 = .int .i64 k∧LQ wr b rd r cc ⟨D,framesOf l k,kf,kp,1,nu⟩∧Turn b (b++cc) w wr) (fun v9 _=>kf-(intOf v9).toNat)
    case atStart=>exact ⟨0,_,Nat.zero_le _,rfl,HV.out,TV.out⟩
    case round =>
     obtain ⟨k,cc,hk,rfl,hl,ht⟩:=hrel
     have HR:=Lib.hid hl
     have HT:=Lib.hid ht
     clear hl ht HV TV HQ TQ x0 x2 x3 x4 x5 xz xf
     obtain ⟨x0,x2,x3,x4,x5,xz,xf⟩:=HR.out.cells
     dsimp only at x2
     by_cases hk2:k<kf
     ·have w_k:(k:Int)<(kf:Int):=by omega
      have hkl:=HKL.out k hk2
      obtain ⟨T,hT⟩:∃ T,s.extract (64+1028*k) (64+1028*(k+1))=T:=⟨_,rfl⟩
      have tz:T.size=1028:=by rw [← hT,ByteArray.size_extract];omega
      have hTl:T.data.toList=partL l (64+1028*k) 1028:=by
       rw [← hT,← HS.out,extr_part,bsOf_list,bsOf_list];congr 1;omega
      obtain ⟨T0,hT0⟩:∃ U,T.extract 0 4=U:=⟨_,rfl⟩
      obtain ⟨T4,hT4⟩:∃ U,T.extract 4 1028=U:=⟨_,rfl⟩
      have tz0:T0.size=4:=by rw [← hT0,ByteArray.size_extract];omega
      have UB:=Lib.hid (fun w1=>ref_unbytes T0 (by omega) w1)
      obtain ⟨x,hx⟩:∃ x,unK T0.data.toList=x:=⟨_,rfl⟩
      rw [hx] at UB
      have hxb:x<4294967296:=by rw [← hx];exact unK_lt 4 _ (by rw [Array.length_toList];show T0.size=4;exact tz0)
      have FA:=Lib.hid (show frameAt l k=⟨x,T4⟩ by
       unfold frameAt
       rw [← hx,← hT0,← hT4,extr_part,extr_part,bsOf_list,hTl,partL_part _ _ _ _ _ (by omega),partL_part _ _ _ _ _ (by omega)]
       rfl)
      have iw1:IntKind.i64.wrap (x:Int)=x:=IntWalk.i64_in _ (by omega)
      have HT0:=Lib.hid hT;have tl:T.size=1028:=tz
      have kb:k≤100000:=by have:=HKF.out;omega
      clear hx hTl
      obtain ⟨hq1,⟨v,rfl,hO⟩,hj⟩:=HR.out
      have HO:=Lib.hid hO
      have HD:=Lib.hid hq1
      have HJ:=Lib.hid hj
      obtain ⟨A1,m1,hv0,hm1⟩:=own_form (hO.own 0 rfl)
      have hv1:v = .slice A1 (framesOf l k).length m1:=hv0
      subst hv1
      clear hv0
      have x1:wr.cell? ⟨r,1,none⟩=some (.slice A1 (framesOf l k).length m1):=hO.has.cell 1
      have fl:=framesOf_len l k
      clear hq1 hO hj
      obtain ⟨i0,hi,hz0,hz1,hz2⟩:=info_parts infoFrame
      have G1:=Lib.hid (show (framesOf l k).length+1≤maxLen by rw [fl];unfold maxLen;omega)
      have G2:=Lib.hid (show ((framesOf l k).length+1)*24≤140737488355328 by rw [fl];omega)
      clear fl
      go_upto_region 21 with fail
      rw [hT]
      go_region_law (first
       | (refine step_append_src (by rfl) _ _ _ _ (by rfl) 0 207 i0 _ 2 24 Tryz.underlying72 hi hz0 hz1 hz2 zeroCellsFrame (by omega) (.slice A1 (framesOf l k).length m1) (framesOf l k).length (frCells (framesOf l k)) (by rfl) ((HO.out.own 0 rfl).drew.alloc _) _ 1 (Fr.cells ⟨x,T4⟩) (by rfl) (Src.ofSlice _ Tryz.underlying72 ⟨_,0,none⟩ 1 1 (Fr.cells ⟨x,T4⟩) rfl (World.news_of_block (heap_alloc_new _ _)) (by simp [Fr.cells,Value.oneCell'])) G1.out G2.out (Nat.zero_le _) ?_;intro A5 k5 w5 hown5 hgrow hat;have HR5:=Lib.hid (ob_appF HO.out hown5 hgrow hat);have gf5:=HR5.out.1.has.frozen;have gc5:w5.cell? ⟨r,1,none⟩=some (.slice A1 (framesOf l k).length m1):=HR5.out.1.has.cell 1;have gz5:=HR5.out.1.has.lt)
       | (go_simp;go_at_call 148;refine (UB.out _).mono ?_;rintro e w1 ⟨rfl,rfl⟩))
      all_goals
       go_wp2_with fail
       obtain ⟨q1,u1⟩:=lq_app HD.out HJ.out HR5.out.1 HR5.out.2
       have LQ2:=Lib.hid q1
       have TQ2:=Lib.hid (HT.out.trans u1)
       clear q1 u1
       go_roundw
       case rel=>exact ⟨k+1,_,by omega,by simp,by rw [framesOf_succ,FA.out];exact LQ2.out,TQ2.out⟩
       case measure=>simp [intOf];omega
     ·have hk3:k=kf:=by omega
      subst hk3
      have w_k:¬ ((k:Int)<(k:Int)):=by omega
      go_wp2_with fail
      go_ret2
      refine ⟨r,b,cc,rfl, ?_,HT.out⟩
      rw [ER.out]
      exact HR.out
  ·have ta:((a:Int) == 0)=false:=by rw [beq_eq_false_iff_ne];omega
   by_cases hb0:bb=0
   ·have tb:((bb:Int) != 0)=false:=by rw [bne_eq_false_iff_eq];omega
    have HIX:slotIx l=0:=by rw [IX,if_neg (fun h2=>ha h2.1),if_neg (fun h2=>h2.elim ha fun h3=>h3.1 hb0)]
    clear IX ha hb0
    have HIX2:slotIx l≠2:=by rw [HIX];decide
    obtain ⟨G1,G2,_⟩:=slotIx_good HIX2
    obtain ⟨G3,G4,G5⟩:=slotOf_good G2
    have e1:Lg.opened D=⟨D,framesOf l (slotOf l 0).2.1,(slotOf l 0).2.1,(slotOf l 0).2.2,0,(slotOf l 0).1⟩:=by
     rw [← HIX,← HLL.out];exact if_neg (by rw [HLL.out];exact HIX2)
    rw [HIX,HA.out] at G2 G3
    rw [HIX,HA.out] at G4
    rw [HA.out] at e1
    dsimp only at G2 G3 G4 e1
    obtain ⟨kf,hkf⟩:∃ k:Nat,a1=k:=⟨_,rfl⟩
    obtain ⟨kp,hkp⟩:∃ k:Nat,a2=k:=⟨_,rfl⟩
    obtain ⟨nu,hnu⟩:∃ k:Nat,a=k:=⟨_,rfl⟩
    rw [hkf,hkp,hnu] at e1
    rw [hkf] at G4
    have HKF:=Lib.hid (show kf≤100000 by have:=HZ.out;have:=L1.out;omega)
    have HKL:=Lib.hid (show ∀ k<kf,64+1028*k+1028≤s.size from fun k hk=>by have:=HZ.out;omega)
    have ER:=Lib.hid e1
    have KK1:=Lib.hid hkf;have KK2:=Lib.hid hkp;have KK3:=Lib.hid hnu
    clear HIX HIX2 G1 G2 G3 G4 G5 e1 hkf hkp hnu
    go_wp2_with (first | (go_at_call 93;(with_reducible refine (S1.out _ HQ.out.disk).mono ?_);rintro e w2 ⟨rfl,hb⟩;have HQ:=Lib.hid (HQ.out.below hb);have TQ:=Lib.hid (TQ.out.trans (Turn.below _ hb));obtain ⟨x0,x2,x3,x4,x5,xz,xf⟩:=HQ.out.cells;clear hb) | (go_at_call 146;(with_reducible refine (SL0.out _).mono ?_);rintro e w2 ⟨rfl,hb⟩;have HQ:=Lib.hid (HQ.out.below hb);have TQ:=Lib.hid (TQ.out.trans (Turn.below _ hb));obtain ⟨x0,x2,x3,x4,x5,xz,xf⟩:=HQ.out.cells;clear hb) | (go_at_call 146;(with_reducible refine (SL1.out _).mono ?_);rintro e w2 ⟨rfl,hb⟩;have HQ:=Lib.hid (HQ.out.below hb);have TQ:=Lib.hid (TQ.out.trans (Turn.below _ hb));obtain ⟨x0,x2,x3,x4,x5,xz,xf⟩:=HQ.out.cells;clear hb))
    rw [KK1.out,KK2.out,KK3.out]
    obtain ⟨q2,u2⟩:=HQ.out.set 5 (.int .i64 nu) ⟨D,[],0,p0,0,nu⟩ rfl rfl (fun v=>rfl)
    obtain ⟨q3,u3⟩:=q2.set 2 (.int .i64 kf) ⟨D,[],kf,p0,0,nu⟩ rfl rfl (fun v=>rfl)
    obtain ⟨q4,u4⟩:=q3.set 3 (.int .i64 kp) ⟨D,[],kf,kp,0,nu⟩ rfl rfl (fun v=>rfl)
    have HV:=Lib.hid q4
    have TV:=Lib.hid (((TQ.out.trans u2).trans u3).trans u4)
    clear q2 u2 q3 u3 q4 u4
    generalize ((w2.setCell ⟨r,5,none⟩ (.int .i64 nu)).setCell ⟨r,2,none⟩ (.int .i64 kf)).setCell ⟨r,3,none⟩ (.int .i64 kp)=V at *
    go_loopw [9] (fun v9 wr=>∃ (k:Nat) (cc:List (Option Nat)),k≤kf∧v9 = .int .i64 k∧LQ wr b rd r cc ⟨D,framesOf l k,kf,kp,0,nu⟩∧Turn b (b++cc) w wr) (fun v9 _=>kf-(intOf v9).toNat)
    case atStart=>exact ⟨0,_,Nat.zero_le _,rfl,HV.out,TV.out⟩
    case round =>
     obtain ⟨k,cc,hk,rfl,hl,ht⟩:=hrel
     have HR:=Lib.hid hl
     have HT:=Lib.hid ht
     clear hl ht HV TV HQ TQ x0 x2 x3 x4 x5 xz xf
     obtain ⟨x0,x2,x3,x4,x5,xz,xf⟩:=HR.out.cells
     dsimp only at x2
     by_cases hk2:k<kf
     ·have w_k:(k:Int)<(kf:Int):=by omega
      have hkl:=HKL.out k hk2
      obtain ⟨T,hT⟩:∃ T,s.extract (64+1028*k) (64+1028*(k+1))=T:=⟨_,rfl⟩
      have tz:T.size=1028:=by rw [← hT,ByteArray.size_extract];omega
      have hTl:T.data.toList=partL l (64+1028*k) 1028:=by
       rw [← hT,← HS.out,extr_part,bsOf_list,bsOf_list];congr 1;omega
      obtain ⟨T0,hT0⟩:∃ U,T.extract 0 4=U:=⟨_,rfl⟩
      obtain ⟨T4,hT4⟩:∃ U,T.extract 4 1028=U:=⟨_,rfl⟩
      have tz0:T0.size=4:=by rw [← hT0,ByteArray.size_extract];omega
      have UB:=Lib.hid (fun w1=>ref_unbytes T0 (by omega) w1)
      obtain ⟨x,hx⟩:∃ x,unK T0.data.toList=x:=⟨_,rfl⟩
      rw [hx] at UB
      have hxb:x<4294967296:=by rw [← hx];exact unK_lt 4 _ (by rw [Array.length_toList];show T0.size=4;exact tz0)
      have FA:=Lib.hid (show frameAt l k=⟨x,T4⟩ by
       unfold frameAt
       rw [← hx,← hT0,← hT4,extr_part,extr_part,bsOf_list,hTl,partL_part _ _ _ _ _ (by omega),partL_part _ _ _ _ _ (by omega)]
       rfl)
      have iw1:IntKind.i64.wrap (x:Int)=x:=IntWalk.i64_in _ (by omega)
      have HT0:=Lib.hid hT;have tl:T.size=1028:=tz
      have kb:k≤100000:=by have:=HKF.out;omega
      clear hx hTl
      obtain ⟨hq1,⟨v,rfl,hO⟩,hj⟩:=HR.out
      have HO:=Lib.hid hO
      have HD:=Lib.hid hq1
      have HJ:=Lib.hid hj
      obtain ⟨A1,m1,hv0,hm1⟩:=own_form (hO.own 0 rfl)
      have hv1:v = .slice A1 (framesOf l k).length m1:=hv0
      subst hv1
      clear hv0
      have x1:wr.cell? ⟨r,1,none⟩=some (.slice A1 (framesOf l k).length m1):=hO.has.cell 1
      have fl:=framesOf_len l k
      clear hq1 hO hj
      obtain ⟨i0,hi,hz0,hz1,hz2⟩:=info_parts infoFrame
      have G1:=Lib.hid (show (framesOf l k).length+1≤maxLen by rw [fl];unfold maxLen;omega)
      have G2:=Lib.hid (show ((framesOf l k).length+1)*24≤140737488355328 by rw [fl];omega)
      clear fl
      go_upto_region 21 with fail
      rw [hT]
      go_region_law (first
       | (refine step_append_src (by rfl) _ _ _ _ (by rfl) 0 207 i0 _ 2 24 Tryz.underlying72 hi hz0 hz1 hz2 zeroCellsFrame (by omega) (.slice A1 (framesOf l k).length m1) (framesOf l k).length (frCells (framesOf l k)) (by rfl) ((HO.out.own 0 rfl).drew.alloc _) _ 1 (Fr.cells ⟨x,T4⟩) (by rfl) (Src.ofSlice _ Tryz.underlying72 ⟨_,0,none⟩ 1 1 (Fr.cells ⟨x,T4⟩) rfl (World.news_of_block (heap_alloc_new _ _)) (by simp [Fr.cells,Value.oneCell'])) G1.out G2.out (Nat.zero_le _) ?_;intro A5 k5 w5 hown5 hgrow hat;have HR5:=Lib.hid (ob_appF HO.out hown5 hgrow hat);have gf5:=HR5.out.1.has.frozen;have gc5:w5.cell? ⟨r,1,none⟩=some (.slice A1 (framesOf l k).length m1):=HR5.out.1.has.cell 1;have gz5:=HR5.out.1.has.lt)
       | (go_simp;go_at_call 148;refine (UB.out _).mono ?_;rintro e w1 ⟨rfl,rfl⟩))
      all_goals
       go_wp2_with fail
       obtain ⟨q1,u1⟩:=lq_app HD.out HJ.out HR5.out.1 HR5.out.2
       have LQ2:=Lib.hid q1
       have TQ2:=Lib.hid (HT.out.trans u1)
       clear q1 u1
       go_roundw
       case rel=>exact ⟨k+1,_,by omega,by simp,by rw [framesOf_succ,FA.out];exact LQ2.out,TQ2.out⟩
       case measure=>simp [intOf];omega
     ·have hk3:k=kf:=by omega
      subst hk3
      have w_k:¬ ((k:Int)<(k:Int)):=by omega
      go_wp2_with fail
      go_ret2
      refine ⟨r,b,cc,rfl, ?_,HT.out⟩
      rw [ER.out]
      exact HR.out
   ·have tb:((bb:Int) != 0)=true:=by rw [bne_iff_ne];omega
    by_cases hab:bb=a % 3+1
    ·have tc:((bb:Int) == (a:Int) % 3+1)=true:=by rw [beq_iff_eq];omega
     have HIX:slotIx l=1:=by rw [IX,if_neg (fun h2=>ha h2.1),if_pos (.inr ⟨hb0,hab⟩)]
     clear IX ha hb0 hab
     have HIX2:slotIx l≠2:=by rw [HIX];decide
     obtain ⟨G1,G2,_⟩:=slotIx_good HIX2
     obtain ⟨G3,G4,G5⟩:=slotOf_good G2
     have e1:Lg.opened D=⟨D,framesOf l (slotOf l 1).2.1,(slotOf l 1).2.1,(slotOf l 1).2.2,1,(slotOf l 1).1⟩:=by
      rw [← HIX,← HLL.out];exact if_neg (by rw [HLL.out];exact HIX2)
     rw [HIX,HB.out] at G2 G3
     rw [HIX,HB.out] at G4
     rw [HB.out] at e1
     dsimp only at G2 G3 G4 e1
     obtain ⟨kf,hkf⟩:∃ k:Nat,bb1=k:=⟨_,rfl⟩
     obtain ⟨kp,hkp⟩:∃ k:Nat,bb2=k:=⟨_,rfl⟩
     obtain ⟨nu,hnu⟩:∃ k:Nat,bb=k:=⟨_,rfl⟩
     rw [hkf,hkp,hnu] at e1
     rw [hkf] at G4
     have HKF:=Lib.hid (show kf≤100000 by have:=HZ.out;have:=L1.out;omega)
     have HKL:=Lib.hid (show ∀ k<kf,64+1028*k+1028≤s.size from fun k hk=>by have:=HZ.out;omega)
     have ER:=Lib.hid e1
     have KK1:=Lib.hid hkf;have KK2:=Lib.hid hkp;have KK3:=Lib.hid hnu
     clear HIX HIX2 G1 G2 G3 G4 G5 e1 hkf hkp hnu
     go_wp2_with (first | (go_at_call 93;(with_reducible refine (S1.out _ HQ.out.disk).mono ?_);rintro e w2 ⟨rfl,hb⟩;have HQ:=Lib.hid (HQ.out.below hb);have TQ:=Lib.hid (TQ.out.trans (Turn.below _ hb));obtain ⟨x0,x2,x3,x4,x5,xz,xf⟩:=HQ.out.cells;clear hb) | (go_at_call 146;(with_reducible refine (SL0.out _).mono ?_);rintro e w2 ⟨rfl,hb⟩;have HQ:=Lib.hid (HQ.out.below hb);have TQ:=Lib.hid (TQ.out.trans (Turn.below _ hb));obtain ⟨x0,x2,x3,x4,x5,xz,xf⟩:=HQ.out.cells;clear hb) | (go_at_call 146;(with_reducible refine (SL1.out _).mono ?_);rintro e w2 ⟨rfl,hb⟩;have HQ:=Lib.hid (HQ.out.below hb);have TQ:=Lib.hid (TQ.out.trans (Turn.below _ hb));obtain ⟨x0,x2,x3,x4,x5,xz,xf⟩:=HQ.out.cells;clear hb) | (go_at_call 146;(with_reducible refine (SL1.out _).mono ?_);rintro e w3 ⟨rfl,hb⟩;obtain ⟨q1,u1⟩:=HQ.out.set 4 (.int .i64 1) ⟨D,[],0,p0,1,0⟩ rfl rfl (fun v=>rfl);have HQ:=Lib.hid (q1.below hb);have TQ:=Lib.hid ((TQ.out.trans u1).trans (Turn.below _ hb));obtain ⟨x0,x2,x3,x4,x5,xz,xf⟩:=HQ.out.cells;clear hb q1 u1))
     rw [KK1.out,KK2.out,KK3.out]
     obtain ⟨q2,u2⟩:=HQ.out.set 5 (.int .i64 nu) ⟨D,[],0,p0,1,nu⟩ rfl rfl (fun v=>rfl)
     obtain ⟨q3,u3⟩:=q2.set 2 (.int .i64 kf) ⟨D,[],kf,p0,1,nu⟩ rfl rfl (fun v=>rfl)
     obtain ⟨q4,u4⟩:=q3.set 3 (.int .i64 kp) ⟨D,[],kf,kp,1,nu⟩ rfl rfl (fun v=>rfl)
     have HV:=Lib.hid q4
     have TV:=Lib.hid (((TQ.out.trans u2).trans u3).trans u4)
     clear q2 u2 q3 u3 q4 u4
     generalize ((w3.setCell ⟨r,5,none⟩ (.int .i64 nu)).setCell ⟨r,2,none⟩ (.int .i64 kf)).setCell ⟨r,3,none⟩ (.int .i64 kp)=V at *
     go_loopw [9] (fun v9 wr=>∃ (k:Nat) (cc:List (Option Nat)),k≤kf∧v9 = .int .i64 k∧LQ wr b rd r cc ⟨D,framesOf l k,kf,kp,1,nu⟩∧Turn b (b++cc) w wr) (fun v9 _=>kf-(intOf v9).toNat)
     case atStart=>exact ⟨0,_,Nat.zero_le _,rfl,HV.out,TV.out⟩
     case round =>
      obtain ⟨k,cc,hk,rfl,hl,ht⟩:=hrel
      have HR:=Lib.hid hl
      have HT:=Lib.hid ht
      clear hl ht HV TV HQ TQ x0 x2 x3 x4 x5 xz xf
      obtain ⟨x0,x2,x3,x4,x5,xz,xf⟩:=HR.out.cells
      dsimp only at x2
      by_cases hk2:k<kf
      ·have w_k:(k:Int)<(kf:Int):=by omega
       have hkl:=HKL.out k hk2
       obtain ⟨T,hT⟩:∃ T,s.extract (64+1028*k) (64+1028*(k+1))=T:=⟨_,rfl⟩
       have tz:T.size=1028:=by rw [← hT,ByteArray.size_extract];omega
       have hTl:T.data.toList=partL l (64+1028*k) 1028:=by
        rw [← hT,← HS.out,extr_part,bsOf_list,bsOf_list];congr 1;omega
       obtain ⟨T0,hT0⟩:∃ U,T.extract 0 4=U:=⟨_,rfl⟩
       obtain ⟨T4,hT4⟩:∃ U,T.extract 4 1028=U:=⟨_,rfl⟩
       have tz0:T0.size=4:=by rw [← hT0,ByteArray.size_extract];omega
       have UB:=Lib.hid (fun w1=>ref_unbytes T0 (by omega) w1)
       obtain ⟨x,hx⟩:∃ x,unK T0.data.toList=x:=⟨_,rfl⟩
       rw [hx] at UB
       have hxb:x<4294967296:=by rw [← hx];exact unK_lt 4 _ (by rw [Array.length_toList];show T0.size=4;exact tz0)
       have FA:=Lib.hid (show frameAt l k=⟨x,T4⟩ by
        unfold frameAt
        rw [← hx,← hT0,← hT4,extr_part,extr_part,bsOf_list,hTl,partL_part _ _ _ _ _ (by omega),partL_part _ _ _ _ _ (by omega)]
        rfl)
       have iw1:IntKind.i64.wrap (x:Int)=x:=IntWalk.i64_in _ (by omega)
       have HT0:=Lib.hid hT;have tl:T.size=1028:=tz
       have kb:k≤100000:=by have:=HKF.out;omega
       clear hx hTl
       obtain ⟨hq1,⟨v,rfl,hO⟩,hj⟩:=HR.out
       have HO:=Lib.hid hO
       have HD:=Lib.hid hq1
       have HJ:=Lib.hid hj
       obtain ⟨A1,m1,hv0,hm1⟩:=own_form (hO.own 0 rfl)
       have hv1:v = .slice A1 (framesOf l k).length m1:=hv0
       subst hv1
       clear hv0
       have x1:wr.cell? ⟨r,1,none⟩=some (.slice A1 (framesOf l k).length m1):=hO.has.cell 1
       have fl:=framesOf_len l k
       clear hq1 hO hj
       obtain ⟨i0,hi,hz0,hz1,hz2⟩:=info_parts infoFrame
       have G1:=Lib.hid (show (framesOf l k).length+1≤maxLen by rw [fl];unfold maxLen;omega)
       have G2:=Lib.hid (show ((framesOf l k).length+1)*24≤140737488355328 by rw [fl];omega)
       clear fl
       go_upto_region 21 with fail
       rw [hT]
       go_region_law (first
        | (refine step_append_src (by rfl) _ _ _ _ (by rfl) 0 207 i0 _ 2 24 Tryz.underlying72 hi hz0 hz1 hz2 zeroCellsFrame (by omega) (.slice A1 (framesOf l k).length m1) (framesOf l k).length (frCells (framesOf l k)) (by rfl) ((HO.out.own 0 rfl).drew.alloc _) _ 1 (Fr.cells ⟨x,T4⟩) (by rfl) (Src.ofSlice _ Tryz.underlying72 ⟨_,0,none⟩ 1 1 (Fr.cells ⟨x,T4⟩) rfl (World.news_of_block (heap_alloc_new _ _)) (by simp [Fr.cells,Value.oneCell'])) G1.out G2.out (Nat.zero_le _) ?_;intro A5 k5 w5 hown5 hgrow hat;have HR5:=Lib.hid (ob_appF HO.out hown5 hgrow hat);have gf5:=HR5.out.1.has.frozen;have gc5:w5.cell? ⟨r,1,none⟩=some (.slice A1 (framesOf l k).length m1):=HR5.out.1.has.cell 1;have gz5:=HR5.out.1.has.lt)
        | (go_simp;go_at_call 148;refine (UB.out _).mono ?_;rintro e w1 ⟨rfl,rfl⟩))
       all_goals
        go_wp2_with fail
        obtain ⟨q1,u1⟩:=lq_app HD.out HJ.out HR5.out.1 HR5.out.2
        have LQ2:=Lib.hid q1
        have TQ2:=Lib.hid (HT.out.trans u1)
        clear q1 u1
        go_roundw
        case rel=>exact ⟨k+1,_,by omega,by simp,by rw [framesOf_succ,FA.out];exact LQ2.out,TQ2.out⟩
        case measure=>simp [intOf];omega
      ·have hk3:k=kf:=by omega
       subst hk3
       have w_k:¬ ((k:Int)<(k:Int)):=by omega
       go_wp2_with fail
       go_ret2
       refine ⟨r,b,cc,rfl, ?_,HT.out⟩
       rw [ER.out]
       exact HR.out
    ·have tc:((bb:Int) == (a:Int) % 3+1)=false:=by rw [beq_eq_false_iff_ne];omega
     have HIX:slotIx l=0:=by rw [IX,if_neg (fun h2=>ha h2.1),if_neg (fun h2=>h2.elim ha fun h3=>hab h3.2)]
     clear IX ha hb0 hab
     have HIX2:slotIx l≠2:=by rw [HIX];decide
     obtain ⟨G1,G2,_⟩:=slotIx_good HIX2
     obtain ⟨G3,G4,G5⟩:=slotOf_good G2
     have e1:Lg.opened D=⟨D,framesOf l (slotOf l 0).2.1,(slotOf l 0).2.1,(slotOf l 0).2.2,0,(slotOf l 0).1⟩:=by
      rw [← HIX,← HLL.out];exact if_neg (by rw [HLL.out];exact HIX2)
     rw [HIX,HA.out] at G2 G3
     rw [HIX,HA.out] at G4
     rw [HA.out] at e1
     dsimp only at G2 G3 G4 e1
     obtain ⟨kf,hkf⟩:∃ k:Nat,a1=k:=⟨_,rfl⟩
     obtain ⟨kp,hkp⟩:∃ k:Nat,a2=k:=⟨_,rfl⟩
     obtain ⟨nu,hnu⟩:∃ k:Nat,a=k:=⟨_,rfl⟩
     rw [hkf,hkp,hnu] at e1
     rw [hkf] at G4
     have HKF:=Lib.hid (show kf≤100000 by have:=HZ.out;have:=L1.out;omega)
     have HKL:=Lib.hid (show ∀ k<kf,64+1028*k+1028≤s.size from fun k hk=>by have:=HZ.out;omega)
     have ER:=Lib.hid e1
     have KK1:=Lib.hid hkf;have KK2:=Lib.hid hkp;have KK3:=Lib.hid hnu
     clear HIX HIX2 G1 G2 G3 G4 G5 e1 hkf hkp hnu
     go_wp2_with (first | (go_at_call 93;(with_reducible refine (S1.out _ HQ.out.disk).mono ?_);rintro e w2 ⟨rfl,hb⟩;have HQ:=Lib.hid (HQ.out.below hb);have TQ:=Lib.hid (TQ.out.trans (Turn.below _ hb));obtain ⟨x0,x2,x3,x4,x5,xz,xf⟩:=HQ.out.cells;clear hb) | (go_at_call 146;(with_reducible refine (SL0.out _).mono ?_);rintro e w2 ⟨rfl,hb⟩;have HQ:=Lib.hid (HQ.out.below hb);have TQ:=Lib.hid (TQ.out.trans (Turn.below _ hb));obtain ⟨x0,x2,x3,x4,x5,xz,xf⟩:=HQ.out.cells;clear hb) | (go_at_call 146;(with_reducible refine (SL1.out _).mono ?_);rintro e w2 ⟨rfl,hb⟩;have HQ:=Lib.hid (HQ.out.below hb);have TQ:=Lib.hid (TQ.out.trans (Turn.below _ hb));obtain ⟨x0,x2,x3,x4,x5,xz,xf⟩:=HQ.out.cells;clear hb))
     rw [KK1.out,KK2.out,KK3.out]
     obtain ⟨q2,u2⟩:=HQ.out.set 5 (.int .i64 nu) ⟨D,[],0,p0,0,nu⟩ rfl rfl (fun v=>rfl)
     obtain ⟨q3,u3⟩:=q2.set 2 (.int .i64 kf) ⟨D,[],kf,p0,0,nu⟩ rfl rfl (fun v=>rfl)
     obtain ⟨q4,u4⟩:=q3.set 3 (.int .i64 kp) ⟨D,[],kf,kp,0,nu⟩ rfl rfl (fun v=>rfl)
     have HV:=Lib.hid q4
     have TV:=Lib.hid (((TQ.out.trans u2).trans u3).trans u4)
     clear q2 u2 q3 u3 q4 u4
     generalize ((w2.setCell ⟨r,5,none⟩ (.int .i64 nu)).setCell ⟨r,2,none⟩ (.int .i64 kf)).setCell ⟨r,3,none⟩ (.int .i64 kp)=V at *
     go_loopw [9] (fun v9 wr=>∃ (k:Nat) (cc:List (Option Nat)),k≤kf∧v9 = .int .i64 k∧LQ wr b rd r cc ⟨D,framesOf l k,kf,kp,0,nu⟩∧Turn b (b++cc) w wr) (fun v9 _=>kf-(intOf v9).toNat)
     case atStart=>exact ⟨0,_,Nat.zero_le _,rfl,HV.out,TV.out⟩
     case round =>
      obtain ⟨k,cc,hk,rfl,hl,ht⟩:=hrel
      have HR:=Lib.hid hl
      have HT:=Lib.hid ht
      clear hl ht HV TV HQ TQ x0 x2 x3 x4 x5 xz xf
      obtain ⟨x0,x2,x3,x4,x5,xz,xf⟩:=HR.out.cells
      dsimp only at x2
      by_cases hk2:k<kf
      ·have w_k:(k:Int)<(kf:Int):=by omega
       have hkl:=HKL.out k hk2
       obtain ⟨T,hT⟩:∃ T,s.extract (64+1028*k) (64+1028*(k+1))=T:=⟨_,rfl⟩
       have tz:T.size=1028:=by rw [← hT,ByteArray.size_extract];omega
       have hTl:T.data.toList=partL l (64+1028*k) 1028:=by
        rw [← hT,← HS.out,extr_part,bsOf_list,bsOf_list];congr 1;omega
       obtain ⟨T0,hT0⟩:∃ U,T.extract 0 4=U:=⟨_,rfl⟩
       obtain ⟨T4,hT4⟩:∃ U,T.extract 4 1028=U:=⟨_,rfl⟩
       have tz0:T0.size=4:=by rw [← hT0,ByteArray.size_extract];omega
       have UB:=Lib.hid (fun w1=>ref_unbytes T0 (by omega) w1)
       obtain ⟨x,hx⟩:∃ x,unK T0.data.toList=x:=⟨_,rfl⟩
       rw [hx] at UB
       have hxb:x<4294967296:=by rw [← hx];exact unK_lt 4 _ (by rw [Array.length_toList];show T0.size=4;exact tz0)
       have FA:=Lib.hid (show frameAt l k=⟨x,T4⟩ by
        unfold frameAt
        rw [← hx,← hT0,← hT4,extr_part,extr_part,bsOf_list,hTl,partL_part _ _ _ _ _ (by omega),partL_part _ _ _ _ _ (by omega)]
        rfl)
       have iw1:IntKind.i64.wrap (x:Int)=x:=IntWalk.i64_in _ (by omega)
       have HT0:=Lib.hid hT;have tl:T.size=1028:=tz
       have kb:k≤100000:=by have:=HKF.out;omega
       clear hx hTl
       obtain ⟨hq1,⟨v,rfl,hO⟩,hj⟩:=HR.out
       have HO:=Lib.hid hO
       have HD:=Lib.hid hq1
       have HJ:=Lib.hid hj
       obtain ⟨A1,m1,hv0,hm1⟩:=own_form (hO.own 0 rfl)
       have hv1:v = .slice A1 (framesOf l k).length m1:=hv0
       subst hv1
       clear hv0
       have x1:wr.cell? ⟨r,1,none⟩=some (.slice A1 (framesOf l k).length m1):=hO.has.cell 1
       have fl:=framesOf_len l k
       clear hq1 hO hj
       obtain ⟨i0,hi,hz0,hz1,hz2⟩:=info_parts infoFrame
       have G1:=Lib.hid (show (framesOf l k).length+1≤maxLen by rw [fl];unfold maxLen;omega)
       have G2:=Lib.hid (show ((framesOf l k).length+1)*24≤140737488355328 by rw [fl];omega)
       clear fl
       go_upto_region 21 with fail
       rw [hT]
       go_region_law (first
        | (refine step_append_src (by rfl) _ _ _ _ (by rfl) 0 207 i0 _ 2 24 Tryz.underlying72 hi hz0 hz1 hz2 zeroCellsFrame (by omega) (.slice A1 (framesOf l k).length m1) (framesOf l k).length (frCells (framesOf l k)) (by rfl) ((HO.out.own 0 rfl).drew.alloc _) _ 1 (Fr.cells ⟨x,T4⟩) (by rfl) (Src.ofSlice _ Tryz.underlying72 ⟨_,0,none⟩ 1 1 (Fr.cells ⟨x,T4⟩) rfl (World.news_of_block (heap_alloc_new _ _)) (by simp [Fr.cells,Value.oneCell'])) G1.out G2.out (Nat.zero_le _) ?_;intro A5 k5 w5 hown5 hgrow hat;have HR5:=Lib.hid (ob_appF HO.out hown5 hgrow hat);have gf5:=HR5.out.1.has.frozen;have gc5:w5.cell? ⟨r,1,none⟩=some (.slice A1 (framesOf l k).length m1):=HR5.out.1.has.cell 1;have gz5:=HR5.out.1.has.lt)
        | (go_simp;go_at_call 148;refine (UB.out _).mono ?_;rintro e w1 ⟨rfl,rfl⟩))
       all_goals
        go_wp2_with fail
        obtain ⟨q1,u1⟩:=lq_app HD.out HJ.out HR5.out.1 HR5.out.2
        have LQ2:=Lib.hid q1
        have TQ2:=Lib.hid (HT.out.trans u1)
        clear q1 u1
        go_roundw
        case rel=>exact ⟨k+1,_,by omega,by simp,by rw [framesOf_succ,FA.out];exact LQ2.out,TQ2.out⟩
        case measure=>simp [intOf];omega
      ·have hk3:k=kf:=by omega
       subst hk3
       have w_k:¬ ((k:Int)<(k:Int)):=by omega
       go_wp2_with fail
       go_ret2
       refine ⟨r,b,cc,rfl, ?_,HT.out⟩
       rw [ER.out]
       exact HR.out
 ·have HIX:slotIx l=2:=by unfold slotIx;rw [if_pos (.inl hm)]
  by_cases hz:s.size<16
  ·have z16:¬ (16:Int)≤(s.size:Int):=by omega
   clear hm hz
   have ER:=Lib.hid (show Lg.opened D=⟨beginD D p0 4,[],0,p0,0,1⟩ by
    have e1:Lg.opened D=⟨anewD D,[],0,(D.seen 0).length / 1024,0,1⟩:=if_pos (by rw [HLL.out];exact HIX)
    rw [e1,anewD,N0.out];rfl)
   clear HIX
   go_wp2_with (first | (go_at_call 93;(with_reducible refine (S1.out _ HQ.out.disk).mono ?_);rintro e w2 ⟨rfl,hb⟩;have HQ:=Lib.hid (HQ.out.below hb);have TQ:=Lib.hid (TQ.out.trans (Turn.below _ hb));obtain ⟨x0,x2,x3,x4,x5,xz,xf⟩:=HQ.out.cells;clear hb) | (go_at_call 147;(with_reducible refine (AN.out _ _ _ HQ.out).mono ?_);rintro e w3 ⟨rfl,b3,c3,hl3,ht3⟩;have HL3:=Lib.hid hl3;have HT3:=Lib.hid (TQ.out.trans ht3);clear hl3 ht3))
   go_ret2
   refine ⟨r,b3,c3,rfl, ?_,HT3.out⟩
   rw [ER.out]
   exact HL3.out
  ·have z16:16≤s.size:=by omega
   have e16:s.extract 0 16≠⟨#[114,101,108,115,116,111,114,101,32,108,111,103,32,48,48,49]⟩:=fun e=>hm (by
    rw [← HS.out,extr_part,bsOf_list] at e
    have e2:=congrArg (fun x:ByteArray=>x.data.toList) e
    simp only at e2
    rw [bsOf_list] at e2
    have e3:partL l 0 16=markL:=e2
    rw [partL_zero] at e3;exact e3)
   generalize (⟨#[114,101,108,115,116,111,114,101,32,108,111,103,32,48,48,49]⟩:ByteArray)=MK at *
   have e2:((s.extract 0 16).toList == MK.toList)=false:=by
    rw [beq_eq_false_iff_ne]
    intro e
    rw [Lib.toList_data,Lib.toList_data] at e
    exact e16 (ByteArray.ext (Array.toList_inj.1 e))
   clear e16 hm hz
   have ER:=Lib.hid (show Lg.opened D=⟨beginD D p0 4,[],0,p0,0,1⟩ by
    have e1:Lg.opened D=⟨anewD D,[],0,(D.seen 0).length / 1024,0,1⟩:=if_pos (by rw [HLL.out];exact HIX)
    rw [e1,anewD,N0.out];rfl)
   clear HIX
   go_wp2_with (first | (go_at_call 93;(with_reducible refine (S1.out _ HQ.out.disk).mono ?_);rintro e w2 ⟨rfl,hb⟩;have HQ:=Lib.hid (HQ.out.below hb);have TQ:=Lib.hid (TQ.out.trans (Turn.below _ hb));obtain ⟨x0,x2,x3,x4,x5,xz,xf⟩:=HQ.out.cells;clear hb) | (go_at_call 147;(with_reducible refine (AN.out _ _ _ HQ.out).mono ?_);rintro e w3 ⟨rfl,b3,c3,hl3,ht3⟩;have HL3:=Lib.hid hl3;have HT3:=Lib.hid (TQ.out.trans ht3);clear hl3 ht3))
   go_ret2
   refine ⟨r,b3,c3,rfl, ?_,HT3.out⟩
   rw [ER.out]
   exact HL3.out
end Go.Proofs.YtjihboddejaelaaGreat
