/-
  PoolRuns in plain Lean (2): a pool between two acts; what an act leaves; a pool that is opened anew.
-/
import Derived.Test.YtjihboddejaelaaGreatTm13
import Derived.Test.YtjihboddejaelaaGreatTm9
import Derived.Test.YtjihboddejaelaaGreatTm19
import Derived.Test.YtjihboddejaelaaGreatTm10
import Derived.Test.YtjihboddejaelaaGreatTm11
import Derived.Test.YtjihboddejaelaaGreatTm18
import Derived.Test.YtjihboddejaelaaGreatTm1
set_option linter.unusedVariables false
set_option linter.unusedSimpArgs false
set_option linter.defProp false
set_option maxRecDepth 100000
set_option maxHeartbeats 100000000
namespace Go.Proofs.YtjihboddejaelaaGreat
open Go.RowKit
open Go.BigFrame
def GY1 {most:Nat} (J:8<=most) (G:most<=64):(Lg.opened Dk.new).ok/\((Lg.opened Dk.new).pages=0->(Lg.opened Dk.new).Ez 0 Yi 1=0)/\(Pl.begun Dk.new).D.down=false/\Fit (Pl.begun Dk.new).D 20000000 /\
 (Pl.begun Dk.new).rw.Dy 0=0/\(Pl.begun Dk.new).rw.Fa 0=Dj 4 0 []/\(Pl.opened Dk.new most).2=0/\Cal (Pl.opened Dk.new most).1 Vo Vo 1 100/\(Pl.opened Dk.new most).1.free=0:=by
 have i:=inv_start 0;have o:=VE0 (D:=Dk.new) ⟨rfl,rfl⟩;have d:=start_eq 0;have s:Lg.opened Dk.new=Lg.opened (Gq [] [] (-1) 0):=rfl;have m:Fit ((Lg.opened Dk.new).Bi 0 Yi 1).D 29000000:=kR (yR (fV.less (by omega))) _ _ _;have h:=DQ0 (Lg.opened Dk.new) 0 Yi 1
 have u:(Lg.opened Dk.new).D.waits.length<=10/\(Lg.opened Dk.new).D.count<=10:=by
  rw[s,d];obtain⟨_,_,a,_⟩:=pK 0;refine⟨by show(Ti (Gq [] [] (-1) 0)).waits.length<=10;rw[a];exact BR _, ?_⟩;show(Ti (Gq [] [] (-1) 0)).count<=10;unfold Ti;have U:=(rV (Gq [] [] (-1) 0) 1 0).count;have V:=(Xc ((Gq [] [] (-1) 0).Fp 1 0) 1).count;have W:=(Yb (((Gq [] [] (-1) 0).Fp 1 0).sync 1) 1 0 (bsOf (Jb++slotL 1 0 (((Gq [] [] (-1) 0).seen 0).length / 1024)))).count;have X:=(Xc ((((Gq [] [] (-1) 0).Fp 1 0).sync 1).write 1 0 (bsOf (Jb++slotL 1 0 (((Gq [] [] (-1) 0).seen 0).length / 1024)))) 1).count;have Y:(Gq [] [] (-1) 0).count=0:=rfl;omega
 obtain⟨L,w⟩:∃ L,Lg.opened (Gq [] [] (-1) 0)=L:=⟨_,rfl⟩;unfold Pl.opened Pl.begun;rw[s]at o m h u ⊢;rw[w]at i o d m h u ⊢
 have e:L.fs=[]:=by rw[d]
 have Z:L.kept=0:=by rw[d]
 have p0:L.pages=0:=by rw[d]
 clear d s w
 have N:IZ 60000 L ⟨0,λ_=>Yi⟩:=⟨i.safe,⟨⟨p0,by rw[e];simp⟩,λn b=>absurd b (OM _)⟩,by show 0<=65536;omega⟩
 have y:Om 60000 L.D.l0 Vo (L.fs++[⟨0,Yi⟩]) 1:=⟨⟨rfl,by rw[e];simp⟩,λn b=>by
  have:n=0:=by have:n<1:=b;omega
  subst this;exact Xv⟩
 have v:Yi.size=1024:=IN1 (l:=0) (by omega);obtain⟨z,c2⟩:=oU N (by rw[e];exact BR _) (n:=0) (p:=1) (by omega) ⟨by omega,by omega⟩ v y;obtain⟨t,A⟩:=RV0 o (by rw[e];exact BR _) (n:=0) (p:=1) (by omega) ⟨by omega,by omega⟩ v i.safe.ok.slot;rw[show((0:Nat):Int)=0 from rfl,show((1:Nat):Int)=1 from rfl]at z t A;obtain⟨j,O,B,P,C⟩:=z t;rw[AC p0];refine⟨i.safe.ok,λ_=>t,C,m.less (by omega), ?_⟩;have R:=h.waits;have S:=h.count;generalize L.Bi 0 Yi 1=M at *
 have E:∀ n,n<Vo.q->Jo M.D.l0 M.fs n (Vo.K n):=by rw[B,O];exact y.2
 have r:Root Vo 0:=⟨AY _,rfl,by omega⟩
 obtain⟨k,g⟩:=(dY j.safe (n:=0) (by omega) (E 0 r.pos)).1 C;rw[r.text]at g;have k:M.rw.Dy 0=0:=k;have g:M.rw.Fa 0=Dj 4 0 []:=g
 have T:M.fs.length=1:=by rw[B,e];rfl
 have F:Pl.Qp M most=({ Pl.fresh M most with free:=0 },0):=by
  unfold Pl.Qp;rw[AC k,g,show Ie (Dj 4 0 [])=some (4,0,[])from jX r.le]
 have H:M.pages=1:=j.kept.1.1;refine⟨k,g,by rw[F], ?_⟩;rw[F]
 have I:DU 60000 ({ Pl.fresh M most with free:=0 }:Pl) Vo Vo:=⟨⟨j.safe.ok,VM,λf c=>(by cases c),λf c=>(by cases c),G,BR _,by show M.pages<=65536;omega,by show(0:Nat)<=_;omega,VM,λx Q=>(by cases Q)⟩,j,H,λf c=>(by cases c),λn b _=>E n b,λn b _=>⟨b,rfl⟩,AY _⟩
 exact⟨⟨I,r,by show M.fs.length+0<=1;omega,A,J,λf c=>(by cases c),by show M.D.waits.length<=100;omega,by show M.D.count<=100;omega,by show M.kept<=1000;rw[P,e];exact(by decide:([]:List Fr).length+1<=1000),λ_=>by show M.fs.length+0<=1000;omega⟩,rfl⟩
def St.first:St:=⟨1,λ_=>(4,0,[]),[]⟩
def qF:St.first.In Vo 0:=by
 have r:Root Vo 0:=⟨AY _,rfl,by omega⟩
 refine⟨rfl,λn a=>?_,rfl,trivial,rfl,λx b=>(by cases b),VM,by show 0<1;omega,by show 1<=65536;omega⟩
 obtain rfl:n=0:=by have:n<1:=a;omega
 exact⟨Me (by omega) (by omega) (by omega),r.text⟩
def EK1(b:List (Option Nat))(w1:World)(a:Ending)(w':World):Prop:=∃ p X,a = .returned (.tuple #[.pointer (some ⟨p,0,none⟩),.int .i64 0])/\PT w' X p St.first St.first 1 100/\Turn b X w1 w'
def BL1{a:Nat}{b:List (Option Nat)}{w1:World}(h:DP w1 b a Dk.new):Calls Tryz.prog 7 #[.pointer (some ⟨a,0,none⟩),.int .i64 8] w1 (EK1 b w1):=by
 obtain⟨e,f,t,u,v,w,i,j,k⟩:=GY1 (most:=8) (by omega) (by omega);have:=CI1 b a Dk.new 8 (by omega) (by omega) w1 h (fV.less (by omega)) rfl (λ_=>⟨rfl,rfl⟩) e (yR (fV.less (by omega))) f;rw[i]at this;refine this.mono ?_;intro x w' l;obtain⟨m,g,n,m2,p,o,q,r,s,c,d⟩:=l;exact⟨p,_,s,⟨m,a,g,n,m2,o,q,r,_,_,Vo,Vo,0,rfl,c,j,by rw[k];exact qF,qF⟩,d⟩
open Go.Maps
def II1{w:World}{a n:Nat}{e:TypeId}{v:Value}{xs:List Value}(h:w.ownsRow a e 1 v n xs):∃ A c,v = .slice A n c:=by
 rcases h.2 with⟨rfl,b⟩ |⟨g,cap,d,rfl,_⟩
 ·rw[b];exact⟨none,0,rfl⟩
 ·exact⟨_,cap,rfl⟩
def TQ0 (b:List (Option Nat)) (gd g m1 m2 p e h t:Nat) (A:List Nat) (P:Pl) (w:World) (H:PM w b gd g m1 m2 p e h t A P) (ok:P.ok) (ce:Fit P.L.D 70300) (cf:P.Bv.2=0->P.Bv.1.L.D.down=false) :
 Calls Tryz.prog 32 #[.pointer (some ⟨p,0,none⟩)] w (qC (allB b g m1 m2 p e h t A) w gd g p e h P.Bi.1 P.Bi.2):=by
 have HP:=Ac H;have OK:=Ac ok;have bj:=Ac ce;have bv:=Ac cf;have x6:w.cell? ⟨p,6,none⟩=some (.map (some t)):=H.has.cell 6
 by_cases hT:P.turned=[]
 ·have cr:∀ ty,(Builtin.len_ #[104] ty #[.map (some t)]).run Tryz.prog w = .ok (.int .i64 0) w:=λty=>by
   have:=H.turned.len PU 3;rw[hT]at this;exact this
  have K:P.Bi=(P,0):=AC hT;rw[K];clear H ok ce cf hT K;go_enter Tryz.func32,Tryz.ntmps32
  go_wp2_with fail
  go_ret;exact⟨rfl,b,m1,m2,t,A,HP,Turn.refl _ _⟩
 ·have cr:=H.turned.len PU
  have e0:((P.turned.length:Int) == 0)=false:=by
   rw[FK];intro hx;exact hT (MI (by omega))
  obtain⟨RC,cg⟩:∃ R,P.Bi=R:=⟨_,rfl⟩
  have HC:Hid (RC=if Gj P.ring=[]then(if(P.get 0).2=0 then Pl.told (Pl.flush [0] (P.get 0).1)else P.get 0)else Pl.told (Pl.flush (Gj P.ring) P)):=Ac (cg.symm.trans (AO hT));obtain⟨B0,ch⟩:∃ B,allB b g m1 m2 p e h t A=B:=⟨_,rfl⟩;have ci:=Ac ch;rw[cg,ch];obtain⟨i0,hi,df,dg,dh⟩:=IP JO1;obtain⟨DH,cs,ct,bw⟩:=H.held;have x3:w.cell? ⟨p,3,none⟩=some (.map (some h)):=H.has.cell 3;have bx:=Ac ct;have FL:P.ring.length<=64:=BN ok.full ok.most;have di:=Ac FL;clear H ok ce cf hT ct bw FL cg ch;go_enter Tryz.func32,Tryz.ntmps32
  go_wp2_with (first
   |(at_range;refine lT _ rfl _ 103 rfl 3 102 Ol XO _ h _ _ rfl cs ?_;intro w0 cb cy cz)
   | go_in)
  go_frame
  have dj:=Ac ((AU w.heap.size w).grown cy (by omega) (λj hj=>by cases hj));obtain⟨r,hr⟩:∃ r,w.heap.size=r:=⟨_,rfl⟩;have HR:=Ac hr;have dk:Hid (w0.heap.size=r+1):=Ac (by rw[cz,hr]);rw[hr]at cb;simp only[hr];clear hr x3 x6 e0 cr cs cz cy
  go_loopw [3,24] (λv3 _ wr=>∃ (left:Lit->Bool) (cnt:Nat) (o:List Nat),wr.ranges Tryz.prog 3 Nj h r P.ring.length DH left cnt/\wr.ownsRow (r+1) 3 1 v3 o.length (RP o)/\Below w.heap.size w wr/\r+1<=wr.heap.size /\
   o.Perm ((P.ring.filter (seenD left)).map (·.n)))
   (λ_ _ wr=>wr.rangeLeft h r)
  case atStart=>exact⟨_,_,[],cb,JJ _ _ _ _,dj,by rw[dk.out];exact AY _,by rw[ZV0 (rY HP.ring.len bx.out)];exact MZ _⟩
  case round =>
   obtain⟨left,cnt,o,bz,cu,c1,bw,ca⟩:=hrel;have HB:=Ac c1;have aw:=Ac cu;have cj:=Ac bw
   have KL:o.length<=64:=by rw[ca.length_eq,BZ];exact BN (dB _ _) di
   have bl:=Ac ca;have G1:=Ac (show o.length+1<=maxLen by unfold maxLen;omega);have G2:=Ac (show(o.length+1)*8<=140737488355328 by omega);clear cb ca cu bw c1
   go_wp2_with (first
    |(at_next;refine Yu _ rfl _ rfl h r _ DH left cnt rfl bz _ bx ?_ ?_)
    | go_in)
   ·intro dl c2
    have PE:o.Perm ((P.ring.filter (·.dirty)).map (·.n)):=by have:=bl.out;rw[IR1 c2]at this;exact this
    have SD:Hid (o.mergeSort (·<= ·)=Gj P.ring):=Ac (IH1 PE);have W:Hid ((Gj P.ring).length=o.length):=Ac (by rw[<- SD.out,dA])
    have b0:Hid (∀ n∈Gj P.ring,n∈P.ring.map (·.n)):=Ac (λn G=>by
     rw[<- SD.out]at G;have:=PE.mem_iff.1 (List.mem_mergeSort.1 G);obtain⟨f,hf,rfl⟩:=DI.1 this
     exact DI.2 ⟨f,(OO.1 hf).1,rfl⟩)
    obtain⟨AA,cc,hv⟩:=II1 aw;have SO:=Ac (GT1 aw (by omega));subst hv;have HW:Hid (∀ k,(Value.slice AA o.length cc).ownBlock=some k->w.heap.size<=k):=Ac (λk q=>by have:=(aw.lt k q).1;have:=HR.out;omega);clear bz c2 dl PE;by_cases ba:o.length=0
    ·have dc:((o.length:Int) == 0)=true:=by rw [ba];rfl
     have ck:Gj P.ring=[]:=MI (by rw[W.out];exact ba);have bm:=Ac (HC.trans (AC ck));have b1:Hid ((if(P.get 0).2=0 then Pl.flush [0] (P.get 0).1 else P.get 0).2=0->(if(P.get 0).2=0 then Pl.flush [0] (P.get 0).1 else P.get 0).1.L.D.down=false):=Ac (by have:=bv.out;unfold Pl.Bv at this;rw[AC ck]at this;exact this);have GT:=Ac (λu (hb:Below w.heap.size w u)=>iH b gd g m1 m2 p e h t A P 0 ⟨by omega,by omega⟩ u (HP.below hb) OK (bj.less (by omega)))
     have b3:=Ac (Yo OK 0);have b4:=Ac (UK (k:=70299) bj 0);have GL:=Ac (Qb OK (x:=0));obtain⟨Q0,c3⟩:∃ Q,(P.get 0).1=Q:=⟨_,rfl⟩;obtain⟨E,Z⟩:∃ E,(P.get 0).2=E:=⟨_,rfl⟩
     have c4:P.get 0=(Q0,E):=by rw[<- c3,<- Z]
     rw[c4]at bm b1 GT b3 b4 GL;dsimp only at bm b1 GT b3 b4 GL;clear ck c3 Z c4 ba;by_cases X:E=0
     ·subst X;have b6:=Ac (bm.trans (AC rfl));have c6:=Ac b1.out
      go_wp2_with (first
       |(go_at_call 96;refine SO.mono ?_;rintro en w1 ⟨rfl,ah,A5,c5,h5,aa,bf⟩;cases h5;have Y:=Ac (HB.grown ah HB.size HW))
       |(go_at_call 97;refine(GT _ Y).mono ?_;rintro en U ⟨b5,n5,n6,M,am,ao,bu⟩;obtain⟨_,a0,a6,dm,rfl⟩:=bu.resolve_left (λh=>h.1 rfl)))
      have b7:=Ac am;have T5:Hid (Turn B0 (allB b5 g n5 n6 p e h t M) w U):=Ac (by rw[<- ci.out];exact(Turn.below _ Y).trans ao)
      have b8:=b7.has.lt;have cw:(U.alloc (.cells #[.int .i64 0] 3)).cell? ⟨U.heap.size,0,none⟩=some (.int .i64 0):=(Has.new U 3 #[.int .i64 0]).cell 0;have cl:=Ac ((AU U.heap.size U).alloc (AY _) (.cells #[.int .i64 0] 3));have H1:=Ac (b7.below cl);have T1:=Ac (T5.trans (Turn.below _ cl));obtain⟨d,ai⟩:∃ d:List Nat,[0]=d:=⟨_,rfl⟩
      have W:Hid (d.length=1):=Ac (by rw[<- ai];rfl)
      have ax:Hid (NL (U.alloc (.cells #[.int .i64 0] 3)) (some ⟨U.heap.size,0,none⟩) d):=Ac (λ_=>⟨U.heap.size,rfl,by simp,λi n G=>by
       rw[<- ai]at G
       cases i with
       | zero=>cases G;exact cw
       | succ i=>cases G⟩)
      have b0:Hid (∀ n∈d,n∈Q0.ring.map (·.n)):=Ac (λn G=>by
       rw[<- ai]at G;obtain⟨F0,f,z,bb,_,_⟩:=GL trivial;rw[BH.1 G,z]
       exact DI.2 ⟨f,BC _ (BH.2 rfl),by omega⟩)
      have OK:=Ac b3.out;have bj:=Ac b4.out;have ac:Hid (RC=Pl.told (Pl.flush d Q0)):=Ac (by rw[<- ai];exact b6);have ap:Hid ((Pl.flush d Q0).2=0->(Pl.flush d Q0).1.L.D.down=false):=Ac (by rw[<- ai];exact c6);obtain⟨R0,ay⟩:∃ R,Pl.flush d Q0=R:=⟨_,rfl⟩;rw[ay]at ac ap;have cm:=Ac ay
      have bc:Hid (∀ k,(some (⟨U.heap.size,0,none⟩:Addr)).map (·.block)=some k->some k∉allB b5 g n5 n6 p e h t M/\k<(U.alloc (.cells #[.int .i64 0] 3)).heap.size):=Ac (λk q=>by
       have dn:U.heap.size=k:=by simpa using q
       subst dn
       exact⟨λh2=>by have:=b7.lt _ h2;omega,by simp⟩)
      clear ai ay HC bv HB cj SO aw bl SD bx HW bm b1 GT b3 b4 GL b6 c6 Y cw cl T5 b7 am ao dm bu b8 aa bf ah;generalize (U.alloc (.cells #[.int .i64 0] 3))=W5 at *;generalize U.heap.size=z5 at *;obtain⟨AA,dd⟩:∃ AA:Option Addr,some ⟨z5,0,none⟩=AA:=⟨_,rfl⟩;rw[dd]at ax bc ⊢
      go_loopw [52] (λaz wr=>∃ (i:Nat) (C:List (Option Nat)) (a2 a4:Nat) (Q:Pl),az = .int .i64 i/\i<=1/\PM wr C gd g a2 a4 p e h t M Q/\Turn B0 (allB C g a2 a4 p e h t M) w wr/\NL wr AA d /\
       (∀ k,AA.map (·.block)=some k->some k∉allB C g a2 a4 p e h t M/\k<wr.heap.size)/\Pl.flush (d.drop i) Q=R0/\Q.ok/\Fit Q.L.D (70004+4*(1-i))/\Q.ring.map (·.n)=Q0.ring.map (·.n)) (λaz _=>1-(intOf az).toNat)
      case atStart=>exact⟨0,b5,n5,n6,Q0,rfl,BR _,H1,T1,ax,bc,cm,OK,bj.less (by omega),rfl⟩
      case round =>
       obtain⟨i,C,n1,n2,Q,rfl,de,bn,bo,aa,bg,bp,bq,bh,br⟩:=hrel;have v:=Ac bn;have HT:=Ac bo;have HN:=Ac aa;have N:=Ac bg;have aq:=Ac bp;have J:=Ac bq;have aj:=Ac bh;have bd:=Ac br;clear bn bo aa bg bp bq bh br H1 T1 ax bc;by_cases dp:i<1
       ·obtain rfl:i=0:=by omega
        obtain⟨bk,cn,dq,be⟩:=HN (by have:=W.out;omega);subst cn
        have a5:0<d.length:=by have:=W.out;omega
        obtain⟨n,G⟩:∃ n,d[0]=n:=⟨_,rfl⟩
        have c0:wr.cell? ⟨bk,0,none⟩=some (.int .i64 (n:Int)):=be 0 n (by rw[DK a5,G])
        have bi:n∈Q.ring.map (·.n):=by rw[bd.out];exact b0 n (G ▸ EI a5)
        have DR:Hid (d.drop 0=n :: d.drop (0+1)):=Ac (by rw[FQ a5,G]);obtain⟨f,hf,bb⟩:=DI.1 bi;obtain⟨F1,F2,z⟩:=TI hf;have al:=v.ring.len
        obtain⟨V,a,A2,hA,hl⟩:∃ V a A2,M=V++a :: A2/\V.length=F1.length:=by
         have q:F1.length<M.length:=by rw[al,z];simp
         exact⟨M.take F1.length,M[F1.length],M.drop (F1.length+1),aQ q,by rw[CU];omega⟩
        subst hA;obtain rfl:f.n=n:=bb;have nm:=J.names;have HK:Hid (MN (Dl (V++a :: A2) Q.ring f.n)=Cc a):=Ac (by rw[z,aU (by rw[<- z];exact nm) hl];rfl)
        have dr:f.n<=65536:=by have:=J.pages f hf;have:=J.few;omega
        have WN:=Ac (KU (x:=(f.n:Int)) (by omega) (by omega));have hr:=v.ring;rw[z]at hr;have ad:=hr.at hl;have a1:wr.cell? ⟨a,1,none⟩=some (.string f.s):=ad.cell 1;have x0:wr.cell? ⟨p,0,none⟩=some (Cc g):=v.has.cell 0;have x3:wr.cell? ⟨p,3,none⟩=some (.map (some h)):=v.has.cell 3;have x4:wr.cell? ⟨p,4,none⟩=some (.int .i64 Q.pages):=v.has.cell 4;have HG:=Ac v.held;have b9:Hid (Vb f.n Q.ring=f.s):=Ac (by rw[z]at nm ⊢;exact iW nm);have a7:Hid (Jl f.n Q.ring=F1++{ f with dirty:=false } :: F2):=Ac (by rw[z]at nm ⊢;exact sW nm);have HF:=Ac z;have a8:=Ac hl;clear be bi hf al nm hr ad z hl G;have ar:d.drop (0+1)=[]:=List.drop_eq_nil_of_le (by have:=W.out;omega)
        obtain⟨E,Z⟩:∃ E,Q.L.Ez f.n f.s Q.pages=E:=⟨_,rfl⟩;obtain⟨L',O⟩:∃ L',Q.L.Bi f.n f.s Q.pages=L':=⟨_,rfl⟩
        have au:L'.ok:=by rw[<- O];exact aS J.log f.n f.s Q.pages
        have ae:Fit L'.D (70004+4*(1-(0+1))):=by rw[<- O];exact kR (aj.less (by omega)) _ _ _
        have AP:=Ac (λu (hb:Below wr.heap.size wr u)=>wL (v.below hb) J.log (aj.less (by omega)) f.n f.s Q.pages);rw[Z,O]at AP
        have Fz9:Hid (R0=if E=0 then Pl.flush (d.drop (0+1)) { Q with L:=L',ring:=F1++{ f with dirty:=false } :: F2 }else({ Q with L:=L' },E)):=Ac (by
         rw[<- aq.out,DR.out,ar,<- Z,<- O,<- a7.out]
         simp only[Pl.flush,b9.out])
        have bs:Hid (Pl.ok { Q with L:=L',ring:=F1++{ f with dirty:=false } :: F2 }):=Ac (by have:=J.clean au f.n;rw[a7.out]at this;exact this);have ae:=Ac ae;clear Z O au ar;have bt:=Ac (λu (hb:Below wr.heap.size wr u)=>Turn.below (allB C g n1 n2 p e h t (V++a :: A2)) hb)
        go_wp2_with (at_lookup;refine Dv _ rfl _ _ rfl h _ (Dl (V++a :: A2) Q.ring) rfl HG f.n rfl WN ?_;rw[HK.out])
        go_region_with ((go_at_call 40;refine(AP _ (by repeat(first | exact AU _ _ | refine LJ ?_))).mono ?_;rintro e2 w2 ⟨rfl,b2,n3,n4,an,av⟩))
        all_goals
         have af:=Ac an;have S:=Ac ((bt _ (by repeat(first | exact AU _ _ | refine LJ ?_))).trans av);clear an av x0 x3 x4 a1 c0;by_cases X:E=0
         ·subst X;have T:=Ac (af.frame (f':={ f with dirty:=false }) HF a8 3 (.bool false) rfl (λx y=>rfl));have ag:=af.ring;rw[show({ Q with L:=L' }:Pl).ring=_ from HF.out]at ag;have ab:=ag.at a8;have y3:w2.cell? ⟨a,3,none⟩=some (.bool f.dirty):=ab.cell 3;have yf:=ab.frozen;clear ag ab
          go_wp2_with fail
          go_roundw
          case rel =>
           refine⟨0+1,b2,n3,n4,{ Q with L:=L',ring:=F1++{ f with dirty:=false } :: F2 },by simp,by omega,T.1,(HT.trans S).trans T.2,HN.turn (S.trans T.2) (λk q=>(N k q).1),λk q=>⟨λh2=>((S.trans T.2).new k h2).elim (N k q).1 (λh3=>by have:=(N k q).2;omega),DD (N k q).2 (S.trans T.2).size⟩, ?_,bs,ae, ?_⟩
           ·have:=Fz9.out;rw[AC rfl]at this;exact this.symm
           ·rw[<- bd.out,HF.out];simp
          case measure=>simp[intOf]
         ·have K:RC=({ Q with L:=L' },E):=by rw [ac.out,Fz9.out,AO X];exact AO X
          go_wp2_with fail
          go_ret;rw[K];exact⟨rfl,b2,n3,n4,t,_,af,HT.trans S⟩
       ·obtain rfl:i=1:=by omega
        have HQ:Hid (R0=(Q,0)):=Ac (by have:=aq.out;rw[<- W.out,nJ]at this;exact this.symm);have I:=v.iZ;rw[bQ _ _ _ _ v.has.lt]at I;have I:=Ac I;have FR:Hid (∀ F,PM F C gd g n1 n2 p e h wr.heap.size M { Q with turned:=[] }->Calls Tryz.prog 89 #[Cc g] F λe w'=>e = .returned (.int .i64 Q.L.fs.length)/\F=w'):=λF hz=>yV C gd g n1 n2 Q.L.rw F hz.log
        have CK:Hid (∀ F,PM F C gd g n1 n2 p e h wr.heap.size M { Q with turned:=[] }->Calls Tryz.prog 99 #[Cc g] F (UD (allB C g n1 n2 p e h wr.heap.size M) F gd g p e h wr.heap.size M { Q with turned:=[],L:=Q.L.Ah.1 } (.int .i64 Q.L.Ah.2))):=λF hz =>
         AU0 hz J.log (by have:=ap.out;rw[HQ.out]at this;exact this rfl) (aj.less (by omega))
        have K:Hid (RC=if 1000<=Q.L.fs.length then({ Q with turned:=[],L:=Q.L.Ah.1 },Q.L.Ah.2)else({ Q with turned:=[] },0)):=Ac (by have:=ac.out;rw[HQ.out]at this;exact this);have x6:wr.cell? ⟨p,6,none⟩=some (.map (some t)):=v.has.cell 6;have x0:wr.cell? ⟨p,0,none⟩=some (Cc g):=v.has.cell 0;have xf:=v.has.frozen;have xl:=v.has.lt;have ds:=ZH;clear aq ac ap HQ;by_cases ak:1000<=Q.L.fs.length
        ·have a9:=Ac (K.trans (AC ak))
         have co:(1000:Int)<=(Q.L.fs.length:Int):=by omega
         clear K ak
         go_wp2_with (first
          |(go_at_call 89;refine(FR _ I.1).mono ?_;rintro en w4 ⟨rfl,rfl⟩)
          |(go_at_call 99;refine(CK _ I.1).mono ?_;rintro en U ⟨rfl,b5,n5,n6,am,ao⟩))
         go_ret;rw[a9.out];exact⟨rfl,b5,n5,n6,_,M,am,(HT.trans I.2).trans ao⟩
        ·have a9:=Ac (K.trans (AO ak))
         have co:¬(1000:Int)<=(Q.L.fs.length:Int):=by omega
         clear K ak
         go_wp2_with (go_at_call 89;refine(FR _ I.1).mono ?_;rintro en w4 ⟨rfl,rfl⟩)
         go_ret;rw[a9.out];exact⟨rfl,C,n1,n2,_,M,I.1,HT.trans I.2⟩
     ·have b6:=Ac (bm.trans (AO X))
      go_wp2_with (first
       |(go_at_call 96;refine SO.mono ?_;rintro en w1 ⟨rfl,ah,A5,c5,h5,aa,bf⟩;cases h5;have Y:=Ac (HB.grown ah HB.size HW))
       |(go_at_call 97;refine(GT _ Y).mono ?_;rintro en U ⟨b5,n5,n6,M,am,ao,bu⟩;obtain⟨_,rfl⟩:=bu.resolve_right (λh=>X h.1)))
      go_ret;rw[b6.out];exact⟨rfl,b5,n5,n6,t,M,am,by rw[<- ci.out];exact(Turn.below _ Y).trans ao⟩
    ·have dc:((o.length:Int) == 0)=false:=by rw [FK];omega
     go_wp2_with (go_at_call 96;refine SO.mono ?_;rintro en w1 ⟨rfl,ah,A5,c5,h5,aa,bf⟩;cases h5)
     have Y:=Ac (HB.grown ah HB.size HW);rw[SD.out]at aa;have H1:=Ac (HP.below Y);have T1:Hid (Turn B0 (allB b g m1 m2 p e h t A) w w1):=Ac (by rw[<- ci.out];exact Turn.below (allB b g m1 m2 p e h t A) Y);have ax:=Ac aa;have c7:=Ac bf;have ac:Hid (RC=Pl.told (Pl.flush (Gj P.ring) P)):=Ac (HC.trans (AO (λhx=>by have:=W.out;rw[hx]at this;exact ba this.symm)));have ap:Hid ((Pl.flush (Gj P.ring) P).2=0->(Pl.flush (Gj P.ring) P).1.L.D.down=false):=Ac (by have:=bv.out;unfold Pl.Bv at this;rw[AO (λhx=>by have:=W.out;rw[hx]at this;exact ba this.symm)]at this;exact this)
     clear aa bf ah SO aw bl SD HC bv HB cj;obtain⟨d,ai⟩:∃ d,Gj P.ring=d:=⟨_,rfl⟩;obtain⟨R0,ay⟩:∃ R,Pl.flush d P=R:=⟨_,rfl⟩;rw[ai]at W b0 ax ac ap;rw[ay]at ac ap;have cm:=Ac ay
     have bc:Hid (∀ k,AA.map (·.block)=some k->some k∉allB b g m1 m2 p e h t A/\k<w1.heap.size):=Ac (λk q=>by
      have h1:=c7 k q
      exact⟨λh2=>by have:=HP.lt k h2;have:=HR.out;omega,h1.2⟩)
     clear ai ay c7 bx HW ba
     go_loopw [52] (λaz wr=>∃ (i:Nat) (C:List (Option Nat)) (a2 a4:Nat) (Q:Pl),az = .int .i64 i/\i<=o.length/\PM wr C gd g a2 a4 p e h t A Q/\Turn B0 (allB C g a2 a4 p e h t A) w wr/\NL wr AA d /\
      (∀ k,AA.map (·.block)=some k->some k∉allB C g a2 a4 p e h t A/\k<wr.heap.size)/\Pl.flush (d.drop i) Q=R0/\Q.ok/\Fit Q.L.D (70004+4*(o.length-i))/\Q.ring.map (·.n)=P.ring.map (·.n)) (λaz _=>o.length-(intOf az).toNat)
     case atStart=>exact⟨0,b,m1,m2,P,rfl,BR _,H1,T1,ax,bc,cm,OK,bj.less (by omega),rfl⟩
     case round =>
      obtain⟨i,C,n1,n2,Q,rfl,de,bn,bo,aa,bg,bp,bq,bh,br⟩:=hrel;have v:=Ac bn;have HT:=Ac bo;have HN:=Ac aa;have N:=Ac bg;have aq:=Ac bp;have J:=Ac bq;have aj:=Ac bh;have bd:=Ac br;clear bn bo aa bg bp bq bh br H1 T1 ax bc;by_cases dp:i<o.length
      ·obtain ⟨bk,cn,dq,be⟩:=HN (by have:=W.out;omega);subst cn
       have a5:i<d.length:=by have:=W.out;omega
       obtain⟨n,G⟩:∃ n,d[i]=n:=⟨_,rfl⟩
       have c0:wr.cell? ⟨bk,i,none⟩=some (.int .i64 (n:Int)):=be i n (by rw[DK a5,G])
       have bi:n∈Q.ring.map (·.n):=by rw[bd.out];exact b0 n (G ▸ EI a5)
       have DR:Hid (d.drop i=n :: d.drop (i+1)):=Ac (by rw[FQ a5,G]);obtain⟨f,hf,bb⟩:=DI.1 bi;obtain⟨F1,F2,z⟩:=TI hf;have al:=v.ring.len
       obtain⟨V,a,A2,hA,hl⟩:∃ V a A2,A=V++a :: A2/\V.length=F1.length:=by
        have q:F1.length<A.length:=by rw[al,z];simp
        exact⟨A.take F1.length,A[F1.length],A.drop (F1.length+1),aQ q,by rw[CU];omega⟩
       subst hA;obtain rfl:f.n=n:=bb;have nm:=J.names;have HK:Hid (MN (Dl (V++a :: A2) Q.ring f.n)=Cc a):=Ac (by rw[z,aU (by rw[<- z];exact nm) hl];rfl)
       have dr:f.n<=65536:=by have:=J.pages f hf;have:=J.few;omega
       have WN:=Ac (KU (x:=(f.n:Int)) (by omega) (by omega));have hr:=v.ring;rw[z]at hr;have ad:=hr.at hl;have a1:wr.cell? ⟨a,1,none⟩=some (.string f.s):=ad.cell 1;have x0:wr.cell? ⟨p,0,none⟩=some (Cc g):=v.has.cell 0;have x3:wr.cell? ⟨p,3,none⟩=some (.map (some h)):=v.has.cell 3;have x4:wr.cell? ⟨p,4,none⟩=some (.int .i64 Q.pages):=v.has.cell 4;have HG:=Ac v.held;have b9:Hid (Vb f.n Q.ring=f.s):=Ac (by rw[z]at nm ⊢;exact iW nm);have a7:Hid (Jl f.n Q.ring=F1++{ f with dirty:=false } :: F2):=Ac (by rw[z]at nm ⊢;exact sW nm);have HF:=Ac z;have a8:=Ac hl;clear be bi hf al nm hr ad z hl G;by_cases dv:i+1<o.length
       ·have g1:(i:Int)<(o.length:Int)-1:=by omega
        obtain⟨m,rs,ar⟩:∃ m rs,d.drop (i+1)=m :: rs:=⟨d[i+1]'(by have:=W.out;omega),d.drop (i+2),by rw[FQ (by have:=W.out;omega)]⟩
        obtain⟨E,Z⟩:∃ E,Q.L.Dp f.n f.s=E:=⟨_,rfl⟩;obtain⟨L',O⟩:∃ L',Q.L.append f.n f.s=L':=⟨_,rfl⟩
        have au:L'.ok:=by rw[<- O];exact Na J.log f.n f.s
        have ae:Fit L'.D (70004+4*(o.length-(i+1))):=by rw[<- O];exact kW (aj.less (by omega)) _ _
        have AP:=Ac (λu (hb:Below wr.heap.size wr u)=>tV (v.below hb) J.log (aj.less (by omega)) f.n f.s);rw[Z,O]at AP
        have Fz9:Hid (R0=if E=0 then Pl.flush (d.drop (i+1)) { Q with L:=L',ring:=F1++{ f with dirty:=false } :: F2 }else({ Q with L:=L' },E)):=Ac (by
         rw[<- aq.out,DR.out,ar,<- Z,<- O,<- a7.out];show Pl.flush _ _=_
         rw[Pl.flush,b9.out])
        have bs:Hid (Pl.ok { Q with L:=L',ring:=F1++{ f with dirty:=false } :: F2 }):=Ac (by have:=J.clean au f.n;rw[a7.out]at this;exact this);have ae:=Ac ae;clear Z O au ar;have bt:=Ac (λu (hb:Below wr.heap.size wr u)=>Turn.below (allB C g n1 n2 p e h t (V++a :: A2)) hb)
        go_wp2_with (at_lookup;refine Dv _ rfl _ _ rfl h _ (Dl (V++a :: A2) Q.ring) rfl HG f.n rfl WN ?_;rw[HK.out])
        go_region_with ((go_at_call 98;refine(AP _ (by repeat(first | exact AU _ _ | refine LJ ?_))).mono ?_;rintro e2 w2 ⟨rfl,b2,n3,n4,an,av⟩))
        all_goals
         have af:=Ac an;have S:=Ac ((bt _ (by repeat(first | exact AU _ _ | refine LJ ?_))).trans av);clear an av x0 x3 x4 a1 c0;by_cases X:E=0
         ·subst X;have T:=Ac (af.frame (f':={ f with dirty:=false }) HF a8 3 (.bool false) rfl (λx y=>rfl));have ag:=af.ring;rw[show({ Q with L:=L' }:Pl).ring=_ from HF.out]at ag;have ab:=ag.at a8;have y3:w2.cell? ⟨a,3,none⟩=some (.bool f.dirty):=ab.cell 3;have yf:=ab.frozen;clear ag ab
          go_wp2_with fail
          go_roundw
          case rel =>
           refine⟨i+1,b2,n3,n4,{ Q with L:=L',ring:=F1++{ f with dirty:=false } :: F2 },by simp,by omega,T.1,(HT.trans S).trans T.2,HN.turn (S.trans T.2) (λk q=>(N k q).1),λk q=>⟨λh2=>((S.trans T.2).new k h2).elim (N k q).1 (λh3=>by have:=(N k q).2;omega),DD (N k q).2 (S.trans T.2).size⟩, ?_,bs,ae, ?_⟩
           ·have:=Fz9.out;rw[AC rfl]at this;exact this.symm
           ·rw[<- bd.out,HF.out];simp
          case measure=>simp[intOf];omega
         ·have K:RC=({ Q with L:=L' },E):=by rw [ac.out,Fz9.out,AO X];exact AO X
          go_wp2_with fail
          go_ret;rw[K];exact⟨rfl,b2,n3,n4,t,_,af,HT.trans S⟩
       ·have g1:¬ (i:Int)<(o.length:Int)-1:=by omega
        have ar:d.drop (i+1)=[]:=List.drop_eq_nil_of_le (by have:=W.out;omega)
        obtain⟨E,Z⟩:∃ E,Q.L.Ez f.n f.s Q.pages=E:=⟨_,rfl⟩;obtain⟨L',O⟩:∃ L',Q.L.Bi f.n f.s Q.pages=L':=⟨_,rfl⟩
        have au:L'.ok:=by rw[<- O];exact aS J.log f.n f.s Q.pages
        have ae:Fit L'.D (70004+4*(o.length-(i+1))):=by rw[<- O];exact kR (aj.less (by omega)) _ _ _
        have AP:=Ac (λu (hb:Below wr.heap.size wr u)=>wL (v.below hb) J.log (aj.less (by omega)) f.n f.s Q.pages);rw[Z,O]at AP
        have Fz9:Hid (R0=if E=0 then Pl.flush (d.drop (i+1)) { Q with L:=L',ring:=F1++{ f with dirty:=false } :: F2 }else({ Q with L:=L' },E)):=Ac (by
         rw[<- aq.out,DR.out,ar,<- Z,<- O,<- a7.out]
         simp only[Pl.flush,b9.out])
        have bs:Hid (Pl.ok { Q with L:=L',ring:=F1++{ f with dirty:=false } :: F2 }):=Ac (by have:=J.clean au f.n;rw[a7.out]at this;exact this);have ae:=Ac ae;clear Z O au ar;have bt:=Ac (λu (hb:Below wr.heap.size wr u)=>Turn.below (allB C g n1 n2 p e h t (V++a :: A2)) hb)
        go_wp2_with (at_lookup;refine Dv _ rfl _ _ rfl h _ (Dl (V++a :: A2) Q.ring) rfl HG f.n rfl WN ?_;rw[HK.out])
        go_region_with ((go_at_call 40;refine(AP _ (by repeat(first | exact AU _ _ | refine LJ ?_))).mono ?_;rintro e2 w2 ⟨rfl,b2,n3,n4,an,av⟩))
        all_goals
         have af:=Ac an;have S:=Ac ((bt _ (by repeat(first | exact AU _ _ | refine LJ ?_))).trans av);clear an av x0 x3 x4 a1 c0;by_cases X:E=0
         ·subst X;have T:=Ac (af.frame (f':={ f with dirty:=false }) HF a8 3 (.bool false) rfl (λx y=>rfl));have ag:=af.ring;rw[show({ Q with L:=L' }:Pl).ring=_ from HF.out]at ag;have ab:=ag.at a8;have y3:w2.cell? ⟨a,3,none⟩=some (.bool f.dirty):=ab.cell 3;have yf:=ab.frozen;clear ag ab
          go_wp2_with fail
          go_roundw
          case rel =>
           refine⟨i+1,b2,n3,n4,{ Q with L:=L',ring:=F1++{ f with dirty:=false } :: F2 },by simp,by omega,T.1,(HT.trans S).trans T.2,HN.turn (S.trans T.2) (λk q=>(N k q).1),λk q=>⟨λh2=>((S.trans T.2).new k h2).elim (N k q).1 (λh3=>by have:=(N k q).2;omega),DD (N k q).2 (S.trans T.2).size⟩, ?_,bs,ae, ?_⟩
           ·have:=Fz9.out;rw[AC rfl]at this;exact this.symm
           ·rw[<- bd.out,HF.out];simp
          case measure=>simp[intOf];omega
         ·have K:RC=({ Q with L:=L' },E):=by rw [ac.out,Fz9.out,AO X];exact AO X
          go_wp2_with fail
          go_ret;rw[K];exact⟨rfl,b2,n3,n4,t,_,af,HT.trans S⟩
      ·obtain rfl:i=o.length:=by omega
       have HQ:Hid (R0=(Q,0)):=Ac (by have:=aq.out;rw[<- W.out,nJ]at this;exact this.symm);have I:=v.iZ;rw[bQ _ _ _ _ v.has.lt]at I;have I:=Ac I;have FR:Hid (∀ F,PM F C gd g n1 n2 p e h wr.heap.size A { Q with turned:=[] }->Calls Tryz.prog 89 #[Cc g] F λe w'=>e = .returned (.int .i64 Q.L.fs.length)/\F=w'):=λF hz=>yV C gd g n1 n2 Q.L.rw F hz.log
       have CK:Hid (∀ F,PM F C gd g n1 n2 p e h wr.heap.size A { Q with turned:=[] }->Calls Tryz.prog 99 #[Cc g] F (UD (allB C g n1 n2 p e h wr.heap.size A) F gd g p e h wr.heap.size A { Q with turned:=[],L:=Q.L.Ah.1 } (.int .i64 Q.L.Ah.2))):=λF hz =>
        AU0 hz J.log (by have:=ap.out;rw[HQ.out]at this;exact this rfl) (aj.less (by omega))
       have K:Hid (RC=if 1000<=Q.L.fs.length then({ Q with turned:=[],L:=Q.L.Ah.1 },Q.L.Ah.2)else({ Q with turned:=[] },0)):=Ac (by have:=ac.out;rw[HQ.out]at this;exact this);have x6:wr.cell? ⟨p,6,none⟩=some (.map (some t)):=v.has.cell 6;have x0:wr.cell? ⟨p,0,none⟩=some (Cc g):=v.has.cell 0;have xf:=v.has.frozen;have xl:=v.has.lt;have ds:=ZH;clear aq ac ap HQ;by_cases ak:1000<=Q.L.fs.length
       ·have a9:=Ac (K.trans (AC ak))
        have co:(1000:Int)<=(Q.L.fs.length:Int):=by omega
        clear K ak
        go_wp2_with (first
         |(go_at_call 89;refine(FR _ I.1).mono ?_;rintro en w4 ⟨rfl,rfl⟩)
         |(go_at_call 99;refine(CK _ I.1).mono ?_;rintro en U ⟨rfl,b5,n5,n6,am,ao⟩))
        go_ret;rw[a9.out];exact⟨rfl,b5,n5,n6,_,A,am,(HT.trans I.2).trans ao⟩
       ·have a9:=Ac (K.trans (AO ak))
        have co:¬(1000:Int)<=(Q.L.fs.length:Int):=by omega
        clear K ak
        go_wp2_with (go_at_call 89;refine(FR _ I.1).mono ?_;rintro en w4 ⟨rfl,rfl⟩)
        go_ret;rw[a9.out];exact⟨rfl,C,n1,n2,_,A,I.1,HT.trans I.2⟩
   ·intro x c w1 cv c8 dt cd c9 ah da dw;obtain⟨V,A2,F1,f,F2,hA,z,hl,bb⟩:=Rz c8;subst hA;subst bb;have Y:=Ac (HB.grown ah HB.size (λj hj=>by cases hj;exact bY HR));have ad:=HP.ring;rw[z]at ad;have ad:=(ad.at hl).Ai Y;have a3:w1.cell? ⟨c,3,none⟩=some (.bool f.dirty):=ad.cell 3;have N:=Ac (aw.kept ah (.inr (λe5=>by have:=(aw.lt r e5).1;omega)));have ST:=Ac (CV1 (left:=left) (by rw[<- z];exact OK.names) dt);rw[<- z]at ST;have cp:Hid (r+1<=w1.heap.size):=Ac (by rw[da];exact cj);clear ad hl z c8 da
    cases hd:f.dirty
    ·rw [hd] at a3 ST
     go_wp2_with go_in
     go_roundw
     case rel=>exact⟨_,cv,o,cd,N,Y,cp,by have:=ST.out;simp at this;exact bl.trans this.symm⟩
     case measure=>rw[cd.left_eq,bz.left_eq];exact c9
    ·rw [hd] at a3 ST
     go_wp2_with (first
      |(at_builtin;go_loud (refine Aq _ rfl (.tmp 32) (.tmp 34) 43 43 rfl (r+1) 3 i0 _ 1 8 lZ hi df dg dh rfl (by decide) u3 o.length (RP o) rfl (N.alloc _) (.slice (some ⟨w1.heap.size,0,none⟩) 1 1) 1 [.int .i64 (f.n:Int)] rfl (IW _ lZ ⟨w1.heap.size,0,none⟩ 1 1 [.int .i64 (f.n:Int)] rfl (JQ (I8 w1 _)) (BQ1 (l:=[f.n]))) G1 G2 (BN cp (by simp)) ?_);intro v2 w2 db cq _ _)
      | go_in)
     have b8:∀ k,k<=r->some k≠Value.ownBlock u3:=λk q e5=>by have:=(N.lt k e5.symm).1;omega
     have du:h<=r:=by have:=HP.held.lt;have:=HR.out;omega
     have cx:=(cd.alloc (.cells #[.int .i64 (f.n:Int)] 3)).kept cq (b8 h du) (b8 r (AY _))
     go_roundw
     case rel =>
      refine⟨_,cv,o++[f.n],cx, ?_,(Y.alloc Y.size _).grown cq (by simp;exact BN Y.size (by simp)) (λj hj=>by have:=(N.lt j hj).1;have:=HR.out;omega),BN cp (BN (by simp) cq.size),(bl.append_right _).trans ST.symm⟩;have:=db;simpa[RP]using this
     case measure=>rw[cx.left_eq,bz.left_eq];exact c9
end Go.Proofs.YtjihboddejaelaaGreat
namespace Go.Proofs.YtjihboddejaelaaGreat
open Go.RowKit Go.BigFrame
def iM{L:Lg}(h:L.D.calm)(n:Int)(t:ByteArray):(L.append n t).D.calm:=by
 unfold Lg.append
 split
 ·exact h.write _ _ _
 ·exact h
def uP{L:Lg}(h:L.D.calm)(f p:Nat):(L.tell f p).D.calm:=by
 have a:(L.Cf f p).calm:=h.write _ _ _;unfold Lg.tell
 split
 ·exact a
 ·have b:((L.Cf f p).sync 1).calm:=a.sync _
  split
  ·exact b
  ·exact b
def zL{L:Lg}(h:L.D.calm)(n:Int)(t:ByteArray)(p:Int):(L.Bi n t p).D.calm:=by
 have a:=iM h n t;have b:((L.append n t).D.sync 1).calm:=a.sync _;unfold Lg.Bi
 split
 ·split
  ·split
   ·exact b
   ·exact uP (L:={ L.append n t with D:=(L.append n t).D.sync 1 }) b _ _
  ·exact a
 ·exact h
def uZ{L:Lg}{D:Dk}(h:D.calm)(m:Nat):(L.Vg D m).calm:=by
 unfold Lg.Vg
 split
 ·exact h.write _ _ _
 ·exact h
def wG {L:Lg}:∀ (k m:Nat) (D:Dk),D.calm->(L.puts k m D).1.calm
 | 0,m,D,h=>h
 | k+1,m,D,h=>by
   rw[Lg.puts]
   split
   ·exact wG k (m+1) _ (uZ h m)
   ·exact uZ h m
def VG0{L:Lg}{D:Dk}(h:D.calm):(L.Gs D).1.D.calm:=by
 have a:(D.Fp 0 (1024*L.pages:Nat)).calm:=h.cut _ _;have b:((D.Fp 0 (1024*L.pages:Nat)).sync 0).calm:=a.sync _;have c:(({ L with D:=(D.Fp 0 (1024*L.pages:Nat)).sync 0 }:Lg).tell 0 L.pages).D.calm:=uP (L:={ L with D:=(D.Fp 0 (1024*L.pages:Nat)).sync 0 }) b _ _;unfold Lg.Gs
 split
 ·exact a
 ·split
  ·exact b
  ·dsimp only
   split
   ·exact c
   ·exact c
def JB0{L:Lg}(h:L.D.calm):L.Ah.1.D.calm:=by
 have a:=wG (L:=L) L.pages 0 L.D h;unfold Lg.Ah
 split
 ·exact h
 ·split
  ·exact h
  ·split
   ·exact a
   ·exact VG0 a
def kZ:∀ (a:List Nat) (P:Pl),P.L.D.calm->(Pl.flush a P).1.L.D.calm
 | [],P,h=>h
 | [n],P,h=>by
   rw[Pl.flush]
   split
   ·exact zL h _ _ _
   ·exact zL h _ _ _
 | n :: m :: r,P,h=>by
   rw[Pl.flush]
   split
   ·exact kZ (m :: r) _ (iM h _ _)
   ·exact iM h _ _
section
variable {P P':Pl} {B N N':Bk} {c k c' k':Nat}
def Cal.Bv(h:Cal P B N c k)(u:c<=49000):P.Bv.2=0/\P.Bv.1.L.D.calm:=by
 have p:Go.Proofs.YtjihboddejaelaaGreat.wt P<=49000:=BN h.wt u;have l:=h.root.pos;unfold Pl.Bv
 by_cases j:Gj P.ring=[]
 ·rw [AC j];have r:=yK j;obtain⟨a,b,_⟩:=h.get (by omega) (x:=0) l;rw[show((0:Nat):Int)=0 from rfl]at a b;rw[AC a];obtain⟨z,f,v,q,_,_⟩:=Qb h.pin.ok a;have s:Go.Proofs.YtjihboddejaelaaGreat.wt (P.get 0).1<=Go.Proofs.YtjihboddejaelaaGreat.wt P:=(UG h.pin (by omega) 0).2.1
  obtain⟨w,m⟩:=Uc [0] (P.get 0).1 (by simp) b.pin (λf g i=>by have:=r f (tZ 0 f g i);rw[this]at i;cases i) (λn t=>by
   rw[BH.1 t,v]
   exact DI.2 ⟨f,BC _ (BH.2 rfl),by omega⟩) (by unfold Go.Proofs.YtjihboddejaelaaGreat.wt at s p;simp;omega) l
  have d:=kZ [0] _ b.calm;exact⟨FC λo=>(by have:=(m o).2.1;rw[d.1]at this;cases this),d⟩
 ·rw [AO j]
  have y:(Gj P.ring).length=(P.ring.filter (·.dirty)).length:=by unfold Gj;rw[dA,BZ]
  obtain⟨w,m⟩:=Uc (Gj P.ring) P j h.pin (λf g i=>Um.2 ⟨f,g,i,rfl⟩) (λn q=>by
   obtain⟨f,g,_,e⟩:=Um.1 q
   exact DI.2 ⟨f,g,e⟩) (by rw[y];unfold Go.Proofs.YtjihboddejaelaaGreat.wt at p;omega) l
  have d:=kZ (Gj P.ring) P h.calm;exact⟨FC λo=>(by have:=(m o).2.1;rw[d.1]at this;cases this),d⟩
def Cal.Bi(h:Cal P B N c k)(o:c<=49000):P.Bi.2=0/\Cal P.Bi.1 N N 1000 (k+66000)/\P.Bi.1.free=P.free:=by
 have T:Go.Proofs.YtjihboddejaelaaGreat.wt P<=49000:=BN h.wt o;have w:=h.waits;have x:=h.count;have Q:=h.wt;obtain⟨f1,f2⟩:=h.Bv o;obtain⟨E,_⟩:=EC0 h.pin (by omega) (by omega) h.root.pos;obtain⟨i,p,U,F,q,V⟩:=E f1;have y:=YK0 h.pin.ok;obtain⟨r,m2⟩:=UN0 h.pin h.root (by omega) (by omega)
 by_cases f:P.turned=[]
 ·have e:P.Bi=(P,0):=by rw [Td,AC f]
  obtain⟨a,b⟩:=h.pin.still f;rw[e];exact⟨rfl,⟨a,h.root,h.still f,h.calm,h.most,h.pins,BN w (SY _ _),BN x (SY _ _),h.kept,h.still⟩,rfl⟩
 ·have e:P.Bi=Pl.told P.Bv:=by rw [Td,AO f]
  have j:=y.trans (OL1 P.Bv)
  have z:P.Bv.1.L.pages<=65536:=by have:=i.log.kept.1.1;have:=i.log.few;omega
  have m:(Pl.told P.Bv).1.L.D.calm:=by
   unfold Pl.told;rw[AC f1]
   split
   ·exact JB0 f2
   ·exact f2
  have A:(Pl.told P.Bv).1.free=P.free:=by
   unfold Pl.told;rw[AC f1]
   split
   ·exact q
   ·exact q
  rw[e]at r m2 ⊢
  have s:(Pl.told P.Bv).2=0:=FC λd=>by
   have n:(Pl.told P.Bv).2=2/\(Pl.told P.Bv).1.L.D.down=true:=by
    have G:=i.oM p;obtain⟨W,H⟩:=G.checked rfl p;have v:¬ P.Bv.1.L.fs.length≠P.Bv.1.L.kept:=λg=>g F.symm;unfold Pl.told at d ⊢;rw[AC f1]at d ⊢;by_cases t:1000<=P.Bv.1.L.fs.length
    ·rw [AC t] at d ⊢;have C:P.Bv.1.L.Ah.2≠11:=λg=>v (DI0 i.log.safe.ok z g);obtain⟨I,J⟩:=H (λg=>g.elim d C);exact⟨I,J.1⟩
    ·rw [AO t] at d;exact absurd rfl d
   rw[m.1]at n;cases n.2
  obtain⟨u,K,X,M⟩:=r s;have l:=M f
  have O:(Pl.told P.Bv).1.L.kept<=1000:=by
   have Y:=u.log.safe.ok.kept;unfold Go.Proofs.YtjihboddejaelaaGreat.wt at l;omega
  have R:=j.near.waits;have S:=j.near.count;exact⟨s,⟨u,K,l,m,by rw[j.most];exact h.most,j.pins 0 h.pins,by omega,by omega,O,λ_=>l⟩,A⟩
def Cal.Gz(h:Cal P B N c k){fB:Nat}(b:Root B fB)(q:c<=49000):P.Gz.2=0/\Cal P.Gz.1 B B 1000 (k+1)/\P.Gz.1.free=fB:=by
 have H:Go.Proofs.YtjihboddejaelaaGreat.wt P<=49000:=BN h.wt q;have A:=h.wt;have C:=h.waits;have E:=h.count;have a:=TP0 P
 have r:¬ P.ring.any (λf=>decide (0<f.pins))=true:=by
  intro d;obtain⟨f,i,s⟩:=VQ.1 d;have:=h.pins f i;have:=PQ s;omega
 obtain⟨j,I⟩:=zB h.pin;have t:=xA P;have n:=h.kept
 have o:Go.Proofs.YtjihboddejaelaaGreat.wt P.rolled<=1000:=by
  have g:∀ f∈P.rolled.ring,f.dirty=false:=λf i=>by
   have d:=OO.1 i
   cases u:f.dirty
   ·rfl
   ·exact absurd ((h.pin.ring f d.1).2 u) (by simpa using d.2)
  show(P.L.fs.take P.L.kept).length+(P.rolled.ring.filter (·.dirty)).length<=1000;rw[aG g,CU];simp;omega
 have g:P.rolled.L.D.calm:=h.calm;have p:8<=P.rolled.most:=h.most;obtain⟨e,cl⟩:=qE j (by omega) g p (t.pins 0 h.pins) (x:=0) b.pos;rw[show((0:Nat):Int)=0 from rfl]at e cl
 have v:P.Gz=P.rolled.root:=by unfold Pl.Gz;rw[AO r]
 rw[v]at a ⊢;obtain⟨w,y,J⟩:=UG j (by omega) 0;have m:=(vV j (by omega) e).2.2;rw[show(0:Int).toNat=0 from rfl,b.text]at m
 have z:P.rolled.root=({ (P.rolled.get 0).1 with free:=fB },0):=by
  unfold Pl.root;rw[AC e,m,jX b.le]
 rw[z]at a ⊢;have F:=a.near.waits;have G:=a.near.count;have l:Go.Proofs.YtjihboddejaelaaGreat.wt (P.rolled.get 0).1<=1000:=BN y o;exact⟨rfl,⟨w.Z8 (show fB<=2147483647 from b.le),b,l,cl,by rw[a.most];exact h.most,a.pins 0 h.pins,by omega,by omega,by show(P.rolled.get 0).1.L.kept<=1000;rw[XG];exact n,λ_=>l⟩,rfl⟩
end
def St.In.rootOf{S:St}{N:Bk}{f:Nat}(h:S.In N f):Root N f:=by
 have a:=h.pg 0 h.pos;rw[h.root]at a;refine⟨by have:=h.q;have:=h.pos;omega,by rw[a.2,h.fr];rfl, ?_⟩;rw[h.fr];exact a.1.2.2.1
section
variable {w:World} {X:List (Option Nat)} {p c k:Nat} {S S0:St}
def jL (h:PT w X p S S0 c k) (d:c<=49000) (j:k<=900000000) :
 Calls Tryz.prog 32 #[.pointer (some ⟨p,0,none⟩)] w (Gw X w p S S 1000 (k+66000) (.int .i64 0)):=by
 obtain⟨b,f,g,l,m2,e,h,t,A,P,B,N,z,rfl,m,a,i,C⟩:=h;obtain⟨n,o,q⟩:=a.Bi d;refine(TQ0 b f g l m2 p e h t A P w m a.pin.ok ((UT a j).less (by omega)) (λ_=>(a.Bv d).2.1)).mono ?_;rintro D w' ⟨r,s,u,n2,v,A',x,y⟩;exact⟨by rw[r,n],_,⟨s,f,g,u,n2,e,h,v,A',_,N,N,P.free,rfl,x,o,by rw[q];exact i,i⟩,y⟩
def UO0 (h:PT w X p S S0 c k) (i:c<=49000) (j:k<=900000000) :
 Calls Tryz.prog 83 #[.pointer (some ⟨p,0,none⟩)] w (Gw X w p S0 S0 1000 (k+1) (.int .i64 0)):=by
 obtain⟨b,f,g,l,m2,e,h,t,A,P,B,N,m,rfl,n,a,C,d⟩:=h;obtain⟨o,q,r⟩:=a.Gz d.rootOf i;refine(NO0 b f g l m2 p e h t A P w n a.pin.ok (zB a.pin).1.ok (show Fit P.L.D 1 from(UT a j).less (by omega))).mono ?_;rintro E w' ⟨s,u,v,n2,x,A',y,z⟩;exact⟨by rw[s,o],_,⟨u,f,g,v,n2,e,h,x,A',_,B,B,m,rfl,y,q,by rw[r];exact d,d⟩,z⟩
end
def MS0 {w:World} {tv:Value} {key v:Ky} (d:¬ (1<=key.length/\key.length<=200)) (a:key.length<=9223372036854775807) :
 Calls Tryz.prog 12 #[tv,.string (AQ key),.string (AQ v)] w λe w'=>e = .returned (.int .i64 1)/\Below w.heap.size w w':=by
 have h:∀(b:Fn) (first cap:Array Value) (w:World),(Instr.makeFunc b first cap).run Tryz.prog w = .ok (.func b first cap) w:=λ_ _ _ _=>rfl;have c:=Ac (λW=>Ny (AQ key) (by rw[Bf];exact a) W)
 have g:decide (1<=(AQ key).size/\(AQ key).size<=200)=false:=by rw[Bf];exact EY d
 rw[g]at c;clear a
 go_enter_defers Tryz.func12,Tryz.ntmps12
 go_wp2_with (first |(go_at_call 48;refine(c _).mono ?_;rintro e w1 ⟨rfl,rfl⟩))
 refine JI (f:=47) (args:=#[.pointer (some ⟨w.heap.size,0,none⟩)]) (by simp) (by simp[go_sem]) ?_;refine(Sj ⟨w.heap.size,0,none⟩ _).mono ?_;rintro e j i ⟨rfl,rfl,rfl⟩;simp[Leaves,settle,results,mF,go_sem]
 (repeat(first | exact AU _ _ | assumption |(refine YL ?_ (by first | omega |(simp <;> omega)) _) | refine LJ ?_ |(refine YM ?_ (by first | omega |(simp <;> omega)) _) |(refine Ap ?_ (by assumption) (by first | omega |(simp <;> omega)))))
def EJ0 {w:World} {tv:Value} {key:Ky} (d:¬ (1<=key.length/\key.length<=200)) (a:key.length<=9223372036854775807) :
 Calls Tryz.prog 13 #[tv,.string (AQ key)] w λe w'=>e = .returned (.tuple #[.bool false,.int .i64 1])/\Below w.heap.size w w':=by
 have h:∀(b:Fn) (first cap:Array Value) (w:World),(Instr.makeFunc b first cap).run Tryz.prog w = .ok (.func b first cap) w:=λ_ _ _ _=>rfl;have c:=Ac (λW=>Ny (AQ key) (by rw[Bf];exact a) W)
 have g:decide (1<=(AQ key).size/\(AQ key).size<=200)=false:=by rw[Bf];exact EY d
 rw[g]at c;clear a
 go_enter_defers Tryz.func13,Tryz.ntmps13
 go_wp2_with (first |(go_at_call 48;refine(c _).mono ?_;rintro e w1 ⟨rfl,rfl⟩))
 refine JI (f:=55) (args:=#[.pointer (some ⟨w.heap.size,0,none⟩)]) (by simp) (by simp[go_sem]) ?_;refine(Lu ⟨w.heap.size,0,none⟩ _).mono ?_;rintro e j i ⟨rfl,rfl,rfl⟩;simp[Leaves,settle,results,mD,go_sem]
 (repeat(first | exact AU _ _ | assumption |(refine YL ?_ (by first | omega |(simp <;> omega)) _) | refine LJ ?_ |(refine YM ?_ (by first | omega |(simp <;> omega)) _) |(refine Ap ?_ (by assumption) (by first | omega |(simp <;> omega)))))
def NT0 {w:World} {tv:Value} {key:Ky} (d:¬ (1<=key.length/\key.length<=200)) (a:key.length<=9223372036854775807) :
 Calls Tryz.prog 101 #[tv,.string (AQ key)] w λe w'=>e = .returned (.tuple #[.string ⟨#[]⟩,.bool false,.int .i64 1])/\Below w.heap.size w w':=by
 have h:∀(b:Fn) (first cap:Array Value) (w:World),(Instr.makeFunc b first cap).run Tryz.prog w = .ok (.func b first cap) w:=λ_ _ _ _=>rfl;have c:=Ac (λW=>Ny (AQ key) (by rw[Bf];exact a) W)
 have g:decide (1<=(AQ key).size/\(AQ key).size<=200)=false:=by rw[Bf];exact EY d
 rw[g]at c;clear a
 go_enter_defers Tryz.func101,Tryz.ntmps101
 go_wp2_with (first |(go_at_call 48;refine(c _).mono ?_;rintro e w1 ⟨rfl,rfl⟩))
 refine JI (f:=178) (args:=#[.pointer (some ⟨w.heap.size,0,none⟩)]) (by simp) (by simp[go_sem]) ?_;refine(Sm ⟨w.heap.size,0,none⟩ _).mono ?_;rintro e j i ⟨rfl,rfl,rfl⟩;simp[Leaves,settle,results,mG,go_sem]
 (repeat(first | exact AU _ _ | assumption |(refine YL ?_ (by first | omega |(simp <;> omega)) _) | refine LJ ?_ |(refine YM ?_ (by first | omega |(simp <;> omega)) _) |(refine Ap ?_ (by assumption) (by first | omega |(simp <;> omega)))))
def Ou(s:ByteArray)(w:World):Calls Tryz.prog 100 #[.string s] w λe w'=>e = .returned (.bool (decide ((1:Int)<=(s.size:Int)) && decide ((s.size:Int)<=200)))/\w=w':=by
 have a:=Ac (λW=>PK1 (s.size:Int) 1 200 W);go_enter Tryz.func100,Tryz.ntmps100
 go_wp2_with (first |(go_at_call 63;refine(a _).mono ?_;rintro e w1 ⟨rfl,rfl⟩))
 go_ret;exact⟨rfl,rfl⟩
end Go.Proofs.YtjihboddejaelaaGreat
