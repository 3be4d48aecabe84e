/-
  What a crash leaves of a log's files, in plain Lean (3): all operations; the first log; what a log that is opened anew reads. No program in sight.
-/
import Derived.Test.YtjihboddejaelaaGreatTm5
import Derived.Test.YtjihboddejaelaaGreatTm1
import Derived.Test.YtjihboddejaelaaGreatProg
import Derived.Test.YtjihboddejaelaaGreatRows
import Derived.WalkSpells
import Derived.WalkLawsBesides
import Derived.BigQuiet
import Derived.Outline
import Derived.LoopTactic
import Derived.Deep.DeepCutAuto
import Derived.Deep.AppendLies
import Derived.Laws.BitsAllLaws
import Derived.Orders
import Derived.Tactics
set_option linter.unusedVariables false
set_option linter.unusedSimpArgs false
set_option linter.defProp false
set_option maxRecDepth 100000
set_option maxHeartbeats 100000000
namespace Go.Proofs.YtjihboddejaelaaGreat
open Go.RowKit
def NZ1 {L:Lg} (h:Ij L) (b:64<=L.D.l1.length) {f p:Nat} (e:f<=L.fs.length) (g:p<4294967296) (how:Int) :
 (Cj (Ko ⟨1,16+24*(1-L.slot),bsOf (slotL (L.number % 3+1) f p),false⟩ how L.D.l1 1)=L.slot/\Az (Ko ⟨1,16+24*(1-L.slot),bsOf (slotL (L.number % 3+1) f p),false⟩ how L.D.l1 1) L.slot=(L.number,L.kept,L.pages)/\Eh (Ko ⟨1,16+24*(1-L.slot),bsOf (slotL (L.number % 3+1) f p),false⟩ how L.D.l1 1) L.kept=L.fs.take L.kept) \/
  (Cj (Ko ⟨1,16+24*(1-L.slot),bsOf (slotL (L.number % 3+1) f p),false⟩ how L.D.l1 1)=1-L.slot/\Az (Ko ⟨1,16+24*(1-L.slot),bsOf (slotL (L.number % 3+1) f p),false⟩ how L.D.l1 1) (1-L.slot)=(L.number % 3+1,f,p)/\Eh (Ko ⟨1,16+24*(1-L.slot),bsOf (slotL (L.number % 3+1) f p),false⟩ how L.D.l1 1) f=L.fs.take f):=by
 unfold Ko;rw[AC rfl];by_cases c:how=1
 ·rw [AC c]
  have a:Ch.done ⟨1,16+24*(1-L.slot),bsOf (slotL (L.number % 3+1) f p),false⟩ L.D.l1=Ry L f p:=by
   unfold Ch.done Ry;rw[AO (show ¬(false=true)by decide),Gf]
  rw[a];exact .inr (ZH0 h b e g)
 ·rw [AO c];by_cases d:how=2
  ·rw [AC d]
   have a:Ch.done (Ch.half ⟨1,16+24*(1-L.slot),bsOf (slotL (L.number % 3+1) f p),false⟩) L.D.l1=Hw L f p:=by
    unfold Ch.half;rw[AO (show ¬(false=true)by decide)];unfold Ch.done Hw;rw[AO (by show ¬(false=true);decide)];show GR L.D.l1 (16+24*(1-L.slot)) ((bsOf (slotL (L.number % 3+1) f p)).extract 0 ((bsOf (slotL (L.number % 3+1) f p)).size / 2)).data.toList=_;rw[Df,Eo,Ot,Gf,Gf];rfl
   rw[a];exact .inl (BK1 h b f p)
  ·rw [AO d];have:=Qw h.safe []
   have i:(L.D.Ey []).l1=L.D.l1:=by
    show Gm [] L.D.waits 0 1 L.D.l1=_;rw[h.waits];rfl
   rw[i]at this;exact .inl ⟨this.2.1,this.2.2.1,this.2.2.2⟩
def Lg.settle(L:Lg)(l:List UInt8):Lg:={ L with D:={ L.D with l1:=l,waits:=[] } }
def NQ0{L:Lg}(h:Safe L)(o:L.fs.length=L.kept){l:List UInt8}(z:zt l (64+1028*L.kept)=zt L.D.l1 (64+1028*L.kept))(g:L.D.l1.length<=l.length)(j:l.length<=67108864):Ij (L.settle l):=by
 obtain⟨f1,f2,k,m,d⟩:=rZ h z g
 have e:(L.settle l).ok:=by
  refine⟨⟨h.ok.disk.l0,j,λc a=>(by cases a),h.ok.disk.fails⟩,h.ok.frames,λi f n=>?_,h.ok.top,h.ok.kept,h.ok.pages,h.ok.slot,h.ok.number⟩;have b:L.fs[i]? = some f:=n;have p:i<L.fs.length:=(C9.1 b).1;exact d i f (by omega) b
 exact⟨⟨e,f1,h.num,f2,k,m,d,λc a=>(by cases a),λc a=>(by cases a)⟩,rfl⟩
def DY0{L:Lg}(h:Safe L)(a:L.fs.length=L.kept)(keep:List Int):Ij (L.settle (L.D.Ey keep).l1):=by
 obtain⟨z,b⟩:=Wx keep L.D.waits 0 1 L.D.l1 (64+1028*L.kept) h.waits1;exact NQ0 h a z b (Dk.LD1 h.ok.disk keep).l1
def xJ {D:Dk} (g:∀ c∈D.waits,c.file=1) {c:Ch} (b:c.file=1) (f:¬ D.stops) (h:¬ (D.change c).stops) :
 (D.change c).sync 1=⟨D.l0,c.done (D.seen 1),[],(D.change c).turn.fails,(D.change c).turn.down,(D.change c).turn.count⟩:=by
 have e:(D.change c).sync 1=(D.change c).Tc 1:=by
  unfold Dk.sync;rw[AC (by decide),AO h];rfl
 have i:(D.change c).seen 1=c.done (D.seen 1):=by
  rw[Dk.Rj _ _ f,AC b]
 have j:(D.change c).waits=D.waits++[c]:=by
  unfold Dk.change;rw[AO f]
 have k:(D.change c).waits.filter (λc=>decide (c.file≠1))=[]:=by
  rw[j,VO];intro d a
  have:d.file=1:=by
   rcases BO.1 a with a | a
   ·exact g d a
   ·rw[BH.1 a];exact b
  simp[this]
 rw[e];show Dk.mk (if 1=0 then _ else(D.change c).l0) (if 1=0 then _ else(D.change c).seen 1) ((D.change c).waits.filter (λc=>decide (c.file≠1))) _ _ _=_;rw[AO (by decide),AO (by decide),i,k,(Ip D c).1]
def lD{D E:Dk}(a:D.fails=E.fails)(c:D.down=E.down)(d:D.count=E.count):(D.stops↔E.stops)/\D.turn.fails=E.turn.fails/\D.turn.down=E.turn.down/\D.turn.count=E.turn.count:=by
 have b:D.stops↔E.stops:=by unfold Dk.stops;rw[a,c]
 refine⟨b, ?_⟩;unfold Dk.turn;by_cases h:D.stops
 ·rw[AC h,AC (b.1 h)];exact⟨a,rfl,d⟩
 ·rw [AO h,AO (λe=>h (b.2 e))];exact⟨by show(if 0<D.fails then _ else _)=(if 0<E.fails then _ else _);rw[a],c,by show D.count+1=E.count+1;rw[d]⟩
def PH0{D E:Dk}(c:Ch)(b:D.fails=E.fails)(d:D.down=E.down)(e:D.count=E.count):(D.change c).fails=(E.change c).fails/\(D.change c).down=(E.change c).down/\(D.change c).count=(E.change c).count:=by
 obtain⟨a,t⟩:=lD b d e;unfold Dk.change;by_cases h:D.stops
 ·rw[AC h,AC (a.1 h)];exact t
 ·rw[AO h,AO (λf=>h (a.2 f))];exact t
def SA(L:Lg)(f p:Nat):Ch:=⟨1,16+24*(1-L.slot),bsOf (slotL (L.number % 3+1) f p),false⟩
def XF{L:Lg}(c:L.slot<2)(f p:Nat):L.Cf f p=L.D.change (SA L f p):=by
 have a:(1<2/\16+24*(1-L.slot)+(bsOf (slotL (L.number % 3+1) f p)).size<=67108864):=⟨by omega,by rw[Df,Eo];omega⟩
 have b:L.Cf f p=L.D.change ⟨(1:Int).toNat,((16+24*(1-L.slot):Nat):Int).toNat,bsOf (slotL (L.number % 3+1) f p),false⟩:=AC (Oq.2 a);rw[b,IR];rfl
def Safe.all1{L:Lg}(h:Safe L):∀ c∈L.D.waits,c.file=1:=λc a=>by
 have b:=h.waits0 c a;have d:=(h.ok.disk.waits c a).1;omega
def SD0 {L:Lg} (h:Safe L) (f p:Nat) (d:¬ L.D.stops) (k:¬ (L.Cf f p).stops) :
 L.tell f p=(L.settle (L.D.seen 1)).tell f p/\¬(L.settle (L.D.seen 1)).D.stops/\¬((L.settle (L.D.seen 1)).Cf f p).stops:=by
 have l:=h.ok.slot;have m:=XF l f p;have n:(L.settle (L.D.seen 1)).Cf f p=(L.settle (L.D.seen 1)).D.change (SA L f p):=XF (L:=L.settle (L.D.seen 1)) l f p;obtain⟨q,_⟩:=lD (D:=L.D) (E:=(L.settle (L.D.seen 1)).D) rfl rfl rfl;obtain⟨r,s,t⟩:=PH0 (D:=L.D) (E:=(L.settle (L.D.seen 1)).D) (SA L f p) rfl rfl rfl;obtain⟨u,v,w,x⟩:=lD r s t;have e:¬(L.settle (L.D.seen 1)).D.stops:=λg=>d (q.2 g)
 have i:¬(L.D.change (SA L f p)).stops:=by rw[<- m];exact k
 have j:¬((L.settle (L.D.seen 1)).D.change (SA L f p)).stops:=λg=>i (u.2 g)
 have o:¬((L.settle (L.D.seen 1)).Cf f p).stops:=by rw[n];exact j
 have a:L.tell f p={ L with D:=(L.Cf f p).sync 1,slot:=1-L.slot,number:=L.number % 3+1,kept:=f,pages:=p }:=(AO d).trans (AO k);have b:(L.settle (L.D.seen 1)).tell f p={ L with D:=((L.settle (L.D.seen 1)).Cf f p).sync 1,slot:=1-L.slot,number:=L.number % 3+1,kept:=f,pages:=p }:=(AO e).trans (AO o);refine⟨?_,e,o⟩;rw[a,b,m,n,xJ h.all1 rfl d i,xJ (λc y=>by cases y) rfl e j,v,w,x];rfl
def lI(D:Dk)(keep:List Int):(D.turn.Ey keep).l0=(D.Ey keep).l0/\(D.turn.Ey keep).l1=(D.Ey keep).l1:=by
 obtain⟨a,b,c⟩:=Xp D;constructor
 ·show Gm keep D.turn.waits 0 0 D.turn.l0=Gm keep D.waits 0 0 D.l0;rw[a,c]
 ·show Gm keep D.turn.waits 0 1 D.turn.l1=Gm keep D.waits 0 1 D.l1;rw[b,c]
structure Inv (L:Lg) (K N:Nat->Option ByteArray):Prop where
 safe:Safe L
 l0:L.D.l0.length<=6144
 six:L.kept≠0->L.pages=6
 kept:Holds L.D.l0 (L.fs.take L.kept) K
 now:Holds L.D.l0 L.fs N
section
variable {L:Lg} {K N:Nat->Option ByteArray}
def Xg{L:Lg}(h:Ij L)(keep:List Int):L.settle (L.D.Ey keep).l1=L/\(L.D.Ey keep).l1=L.D.l1:=by
 have e:(L.D.Ey keep).l1=L.D.l1:=by
  show Gm keep L.D.waits 0 1 L.D.l1=_;rw[h.waits];rfl
 refine⟨?_,e⟩;rw[e];have i:=h.waits;obtain⟨⟨a,b,c,d,j,f⟩,fs,k,p,s,u⟩:=L;have g:c=[]:=i;subst g;rfl
end
def Zz(D:Dk):D.Dw=0\/D.Dw=2:=by
 unfold Dk.Dw;split
 ·exact .inr rfl
 ·exact .inl rfl
def DP1{L:Lg}(h:Safe L)(b:L.kept=0):Safe ({ L with fs:=[] }:Lg) :=
 ⟨⟨h.ok.disk,λf a=>(by cases a),λi f a=>(by cases a),.inr rfl,by show L.kept<=0;omega,h.ok.pages,h.ok.slot,h.ok.number⟩,
   h.mark,h.num,h.slot,h.old,h.top,λi f c a=>(by cases a),h.waits1,h.waits0⟩
def jS{L:Lg}(h:Safe L){D3:Dk}(d:D3.ok)(a:D3.l1=L.D.l1)(b:D3.waits=L.D.waits)(e:D3.seen 1=L.D.seen 1):Safe ({ L with D:=D3 }:Lg):=by
 refine⟨h.ok.same d e, ?_,h.num, ?_, ?_, ?_, ?_, ?_, ?_⟩
 ·show D3.l1.take 16=Jb;rw[a];exact h.mark
 ·show Bc D3.l1 _ 24=_;rw[a];exact h.slot
 ·show Pi ((zt D3.l1 _).drop _) _;rw[a];exact h.old
 ·show _\/_<=D3.l1.length;rw[a];exact h.top
 ·show ∀ i f,i<L.kept->L.fs[i]? = some f->Bc D3.l1 (64+1028*i) 1028=f.bytes;rw[a];exact h.lies
 ·show ∀ c∈D3.waits,_;rw[b];exact h.waits1
 ·show ∀ c∈D3.waits,_;rw[b];exact h.waits0
def jY(L:Lg)(f p:Nat):L.Eb f p=0\/L.Eb f p=2:=by
 unfold Lg.Eb
 split
 ·exact .inr rfl
 ·exact Zz _
def Gq(a b:List UInt8)(f:Int)(n:Nat):Dk:=⟨a,b,[],f,false,n⟩
def nothing:Nat->Option ByteArray:=λ_=>none
def MX1(n:Nat)(a:n<6):dR [] n=List.replicate 1024 0:=by
 refine JC λi=>?_;unfold dR;rw[Ee,List.getElem?_replicate]
 split
 ·rw[QQ,AC (by omega),AO (by simp)]
 ·rfl
def BC0:Holds [] [] nothing:=λn a=>by
 unfold wM;rw[AO (show ¬ Aw [] n≠0 from λb=>b rfl),MX1 n a];exact⟨rfl,λh=>absurd rfl h⟩
def JP1(t:List UInt8):GR [] 0 t=t:=by
 refine JC λi=>?_;rw[Xw,Vu];by_cases h:i<t.length
 ·rw[AC (by omega)];rfl
 ·rw[AO (by omega),AO (by simp),AO (by omega),MH (by omega)]
def VU:List UInt8:=Jb++slotL 1 0 0
def YW0:VU.length=40:=by decide
def pK(n:Nat):(Ti (Gq [] [] (-1) n)).l0=[]/\(Ti (Gq [] [] (-1) n)).l1=VU/\(Ti (Gq [] [] (-1) n)).waits=[]/\(Ti (Gq [] [] (-1) n)).fails = -1/\(Ti (Gq [] [] (-1) n)).down=false:=by
 have g:Ch.done ⟨1,0,⟨#[]⟩,true⟩ []=[]:=rfl;have a:(Gq [] [] (-1) n).Fp 1 0=⟨[],[],[⟨1,0,⟨#[]⟩,true⟩], -1,false,n+1⟩:=rfl;have b:(⟨[],[],[⟨1,0,⟨#[]⟩,true⟩], -1,false,n+1⟩:Dk).sync 1=⟨[],[],[], -1,false,n+1+1⟩:=rfl
 have c:(bsOf (Jb++slotL 1 0 ((([]:List UInt8)).length / 1024))).size=40:=by rw[Df];exact YW0
 have d:(⟨[],[],[], -1,false,n+1+1⟩:Dk).write 1 0 (bsOf (Jb++slotL 1 0 ((([]:List UInt8)).length / 1024)))=⟨[],[],[⟨1,0,bsOf (Jb++slotL 1 0 ((([]:List UInt8)).length / 1024)),false⟩], -1,false,n+1+1+1⟩:=by
  refine(AC ?_).trans ?_
  ·rw[c];decide
  ·rfl
 have e:Ti (Gq [] [] (-1) n)=((((Gq [] [] (-1) n).Fp 1 0).sync 1).write 1 0 (bsOf (Jb++slotL 1 0 ((([]:List UInt8)).length / 1024)))).sync 1:=rfl
 have f:Ti (Gq [] [] (-1) n)=⟨[],GR [] 0 (bsOf VU).data.toList,[], -1,false,n+1+1+1+1⟩:=by
  rw[e,a,b,d];rfl
 rw[f];exact⟨rfl,by show GR [] 0 (bsOf VU).data.toList=_;rw[Gf,JP1],rfl,rfl,rfl⟩
def YZ0:Cj []=2:=by decide
def start_eq(n:Nat):Lg.opened (Gq [] [] (-1) n)=⟨Ti (Gq [] [] (-1) n),[],0,0,0,1⟩:=(AC (c:=Cj ((Gq [] [] (-1) n).seen 1)=2) YZ0).trans (by rw[show((Gq [] [] (-1) n).seen 0).length / 1024=0 from by show 0 / 1024=0;decide])
def inv_start(n:Nat):Inv (Lg.opened (Gq [] [] (-1) n)) nothing nothing:=by
 obtain⟨d,e,j,m,o⟩:=pK n;have g:(Lg.opened (Gq [] [] (-1) n)).ok:=vU ⟨by simp[Gq],by simp[Gq],λc b=>(by cases b),(by show -1<=(-1:Int)/\(-1:Int)<=9223372036854775807;decide)⟩;rw[start_eq]at g ⊢;generalize Ti (Gq [] [] (-1) n)=D at *
 have k:(zt VU (40+24*(1-0))).drop (16+24*(1-0))=List.replicate 24 0:=by decide
 refine⟨⟨g, ?_,⟨AY _,(by show 1<=3;decide)⟩, ?_, ?_,.inl rfl,λi f p l=>(by cases l),λc b=>?_,λc b=>?_⟩, ?_,λh=>absurd rfl h, ?_, ?_⟩
 ·show D.l1.take 16=Jb;rw[e];decide
 ·show Bc D.l1 (16+24*0) 24=slotL 1 0 0;rw[e];decide
 ·show Pi ((zt D.l1 (40+24*(1-0))).drop (16+24*(1-0))) 1;rw[e,k];exact HY1 1
 ·have a:c∈D.waits:=b
  rw[j]at a;cases a
 ·have a:c∈D.waits:=b
  rw[j]at a;cases a
 ·show D.l0.length<=6144;rw[d];exact BR _
 ·show Holds D.l0 _ _;rw[d];exact BC0
 ·show Holds D.l0 _ _;rw[d];exact BC0
def RU(l1:List UInt8):Prop:=∀ D:Dk,D.ok->D.l1=l1->D.waits=[]->Safe (Lg.opened D)
def FA1{L:Lg}(h:Safe L)(keep:List Int){D:Dk}(c:D.l1=(L.D.Ey keep).l1)(d:D.waits=[]):Lg.opened D=⟨D,L.fs.take L.kept,L.kept,L.pages,L.slot,L.number⟩:=by
 obtain⟨j,a,f,g⟩:=Qw h keep;have k:=h.ok.slot
 have b:D.seen 1=(L.D.Ey keep).l1:=by
  rw[<- c];unfold Dk.seen;rw[d];rfl
 have i:Cj (D.seen 1)≠2:=by rw[b,a];omega
 have e:Lg.opened D=⟨D,Eh (D.seen 1) (Az (D.seen 1) (Cj (D.seen 1))).2.1,(Az (D.seen 1) (Cj (D.seen 1))).2.1,(Az (D.seen 1) (Cj (D.seen 1))).2.2,Cj (D.seen 1),(Az (D.seen 1) (Cj (D.seen 1))).1⟩:=AO i;rw[e,b,a,f,g]
def seen_none{D:Dk}(a:D.waits=[]):D.seen 1=D.l1:=by unfold Dk.seen;rw[a];rfl
def Yx{L:Lg}(h:Safe L)(keep:List Int):RU (L.D.Ey keep).l1:=λD d a b=>by
 rw[FA1 h keep a b];have e:=h.ok.kept
 have S:=(DY0 (Zv h) (show(L.fs.take L.kept).length=L.kept by rw[CU];omega) keep)
 have c:=S.waits;have:=jS S.safe (D3:=D) d a (b.trans c.symm) (by rw[seen_none b,seen_none c];exact a);exact this
def Vr{L:Lg}(h:Ij L):RU L.D.l1:=by
 have:=Yx h.safe []
 rwa [(Xg h []).2]at this
def YT0{L:Lg}(h:Ij L)(d:64<=L.D.l1.length){f p:Nat}(i:f<=L.fs.length)(j:p<4294967296):RU (Ry L f p):=by
 have g:({ L.D with fails:=-1,down:=false }:Dk).ok:=⟨h.safe.ok.disk.l0,h.safe.ok.disk.l1,h.safe.ok.disk.waits,by show -1<=(-1:Int)/\(-1:Int)<=9223372036854775807;omega⟩
 have c:Ij ({ L with D:={ L.D with fails:=-1,down:=false } }:Lg):=⟨jS h.safe g rfl rfl rfl,h.waits⟩
 have b:¬({ L.D with fails:=-1,down:=false }:Dk).stops:=λa=>by
  rcases a with a | a
  ·cases a
  ·exact absurd (show(-1:Int)=0 from a) (by decide)
 have n2:¬(({ L with D:={ L.D with fails:=-1,down:=false } }:Lg).Cf f p).stops:=λa=>by
  have e:=XF c.safe.ok.slot f p;rw[e]at a;unfold Dk.change at a;rw[AO b]at a;unfold Dk.turn at a;rw[AO b]at a
  rcases a with a | a
  ·cases a
  ·exact absurd (show(if(0:Int) < -1 then(-1:Int)-1 else -1)=0 from a) (by decide)
 have S:=uY c d i j b n2
 have e:(({ L with D:={ L.D with fails:=-1,down:=false } }:Lg).tell f p).D.l1=Ry L f p:=by
  have k:({ L with D:={ L.D with fails:=-1,down:=false } }:Lg).tell f p={ ({ L with D:={ L.D with fails:=-1,down:=false } }:Lg)with D:=(({ L with D:={ L.D with fails:=-1,down:=false } }:Lg).Cf f p).sync 1,slot:=1-L.slot,number:=L.number % 3+1,kept:=f,pages:=p }:=(AO b).trans (AO n2);rw[k];exact(xU c f p b n2).2.1
 rw[<- e];exact Vr S
def YN0{L:Lg}(h:Ij L)(v:64<=L.D.l1.length)(f p:Nat):RU (Hw L f p):=by
 have w:=h.safe.ok.slot;have x:=h.safe.ok.kept
 have j:((slotL (L.number % 3+1) f p).take 12).length=12:=by rw[CU,Eo];omega
 have m:(Hw L f p).length=L.D.l1.length:=by unfold Hw;rw[Lh,j];omega
 have far:∀ a n,64<=a->a+n<=L.D.l1.length->Bc (Hw L f p) a n=Bc L.D.l1 a n:=λa n y k=>Iz k (.inr (by rw[j];omega));have o:∀ a n,a+n<=16+24*(1-L.slot)->Bc (Hw L f p) a n=Bc L.D.l1 a n:=λa n k=>Iz (by omega) (.inl k)
 have q:∀ i g,L.fs[i]? = some g->Bc (Hw L f p) (64+1028*i) 1028=g.bytes:=λi g b=>by
  have r:=Ju h b;have s:=He r (Fr.Hz _ (h.safe.ok.frames g (F5 b)).2) (by omega);rw[far _ _ (by omega) s];exact r
 have sub:∀ i g,(L.fs.take L.kept)[i]? = some g->L.fs[i]? = some g:=λi g b=>by
  rw[GZ]at b
  split at b
  ·exact b
  ·cases b
 have t:(L.back.settle (Hw L f p)).ok:=by
  refine⟨⟨h.safe.ok.disk.l0,by show(Hw L f p).length<=_;rw[m];exact h.safe.ok.disk.l1,λc d=>(by cases d),h.safe.ok.disk.fails⟩,λg b=>h.safe.ok.frames g (nD b),λi g b=>?_,(Zv h.safe).ok.top,(Zv h.safe).ok.kept,h.safe.ok.pages,h.safe.ok.slot,h.safe.ok.number⟩;exact q i g (sub i g b)
 have S:Ij (L.back.settle (Hw L f p)):=by
  refine⟨⟨t, ?_,h.safe.num, ?_, ?_, ?_,λi g z b=>q i g (sub i g b),λc d=>(by cases d),λc d=>(by cases d)⟩,rfl⟩
  ·show (Hw L f p).take 16=Jb;have:=o 0 16 (by omega);rw[Gn,Gn]at this;rw[this];exact h.safe.mark
  ·show Bc (Hw L f p) (16+24*L.slot) 24=slotL L.number L.kept L.pages
   rcases(show L.slot=0\/L.slot=1 by omega)with e | e
   ·rw[o _ _ (by omega)];exact h.safe.slot
   ·have:=h.safe.slot;rw[e]at this ⊢;rw[<- this];exact Iz (by omega) (.inr (by rw[j,e];omega))
  ·show Pi ((zt (Hw L f p) (40+24*(1-L.slot))).drop (16+24*(1-L.slot))) L.number;have l:=h.safe.old;rw[fA (by omega)]at l ⊢
   have u:(Bc (Hw L f p) (16+24*(1-L.slot)) 24).drop 12=(Bc L.D.l1 (16+24*(1-L.slot)) 24).drop 12:=by
    refine JC λi=>?_;rw[IX,IX,Ee,Ee]
    split
    ·unfold Hw;rw[Xw,AO (by rw[j];omega),Zn _ _ _ (by omega)]
    ·rfl
   unfold Pi at l ⊢;rw[u];exact l
  ·show L.kept=0\/64+1028*L.kept<=(Hw L f p).length;rw[m];exact h.safe.top
 exact Vr S
def uX {L:Lg} (h:Ij L) (b:64<=L.D.l1.length) {f p:Nat} (e:f<=L.fs.length) (g:p<4294967296) (how:Int) :
 RU (Ko ⟨1,16+24*(1-L.slot),bsOf (slotL (L.number % 3+1) f p),false⟩ how L.D.l1 1):=by
 unfold Ko;rw[AC rfl];by_cases c:how=1
 ·rw [AC c]
  have a:Ch.done ⟨1,16+24*(1-L.slot),bsOf (slotL (L.number % 3+1) f p),false⟩ L.D.l1=Ry L f p:=by
   unfold Ch.done Ry;rw[AO (show ¬(false=true)by decide),Gf]
  rw[a];exact YT0 h b e g
 ·rw [AO c];by_cases d:how=2
  ·rw [AC d]
   have a:Ch.done (Ch.half ⟨1,16+24*(1-L.slot),bsOf (slotL (L.number % 3+1) f p),false⟩) L.D.l1=Hw L f p:=by
    unfold Ch.half;rw[AO (show ¬(false=true)by decide)];unfold Ch.done Hw;rw[AO (by show ¬(false=true);decide)];show GR L.D.l1 (16+24*(1-L.slot)) ((bsOf (slotL (L.number % 3+1) f p)).extract 0 ((bsOf (slotL (L.number % 3+1) f p)).size / 2)).data.toList=_;rw[Df,Eo,Ot,Gf,Gf];rfl
   rw[a];exact YN0 h b f p
  ·rw [AO d];exact Vr h
def fF{D:Dk}(h:¬ D.stops):D.down=false:=by
 cases a:D.down with
 | false=>rfl
 | true=>exact absurd (.inl a) h
def DD1{D:Dk}{c:Ch}(h:¬ D.stops):(D.change c).down=false:=by
 unfold Dk.change Dk.turn;rw[AO h,AO h];exact fF (D:=D) h
def NM1{D:Dk}{f:Nat}(a:f<2)(h:¬ D.stops):(D.sync f).down=false:=by
 unfold Dk.sync;rw[AC (by omega),AO h];show D.turn.down=false;unfold Dk.turn;rw[AO h];exact fF (D:=D) h
def IG1{L:Lg}{f p:Nat}(h:L.Eb f p=0):(L.tell f p).D.down=false:=by
 unfold Lg.Eb at h;by_cases a:L.D.stops
 ·rw[AC a]at h;cases h
 ·rw [AO a] at h;have b:=(Fj _).1 h;unfold Lg.tell;rw[AO a,AO b];exact NM1 (f:=1) (by omega) b
def IC1{L:Lg}{D:Dk}:(L.Gs D).2≠11:=λa=>by
 unfold Lg.Gs at a;by_cases b:D.IM 0 (1024*L.pages:Nat)≠0
 ·rw [AC b] at a;dsimp only at a;unfold Dk.IM at a
  split at a
  ·rcases Zz D with h | h
   ·rw[h]at a;cases a
   ·rw[h]at a;cases a
  ·cases a
 ·rw [AO b] at a;by_cases c:(D.Fp 0 (1024*L.pages:Nat)).stops
  ·rw[AC c]at a;cases a
  ·rw [AO c] at a;dsimp only at a
   rcases jY ({ L with D:=(D.Fp 0 (1024*L.pages:Nat)).sync 0 }:Lg) 0 L.pages with h | h
   ·rw[AC h]at a;cases a
   ·rw [AO (by rw [h];decide)] at a
    dsimp only at a;rw[h]at a;cases a
structure Pf where
 n:Nat
 s:ByteArray
 pins:Nat
 dirty:Bool
def QE:Pf:=⟨0,⟨#[]⟩,0,false⟩
abbrev Cc(b:Nat):Value:=.pointer (some ⟨b,0,none⟩)
def JO(f:Pf)(p q:Nat):Array Value:=#[.int .i64 f.n,.string f.s,.int .i64 f.pins,.bool f.dirty,Cc p,Cc q]
def EM (w:World):Nat->List Nat->List Pf->Nat->Prop
 | _,[],F,_=>F=[]
 | p,a :: A,F,q=>∃ f r,F=f :: r/\Has w a 166 (JO f p (A.headD q))/\EM w a A r q
section
variable {w w':World}
def UI:∀ {p:Nat} {A:List Nat} {F:List Pf} {q:Nat},EM w p A F q->A.length=F.length
 | _,[],_,_,h=>by rw[show _=[]from h];rfl
 | p,a :: A,_,q,h=>by
   obtain⟨f,r,rfl,_,b⟩:=h;simp[UI b]
def seg_lt:∀ {p:Nat} {A:List Nat} {F:List Pf} {q:Nat},EM w p A F q->∀ x∈A,x<w.heap.size
 | _,[],_,_,_,_,b=>by cases b
 | p,a :: A,_,q,h,x,b=>by
   obtain⟨f,r,rfl,c,d⟩:=h
   rcases BI.1 b with rfl | b
   ·exact c.lt
   ·exact seg_lt d x b
def WZ:∀ {p:Nat} {A:List Nat} {F:List Pf} {q:Nat},(∀ x∈A,w'.heap[x]? = w.heap[x]?)->EM w p A F q->EM w' p A F q
 | _,[],_,_,_,h=>h
 | p,a :: A,_,q,hb,h=>by
   obtain⟨f,r,rfl,b,c⟩:=h;exact⟨f,r,rfl,(hb a (AZ ..)).trans b,WZ (λx d=>hb x (BF _ d)) c⟩
def Xe{p:Nat}{A:List Nat}{F:List Pf}{q:Nat}(h:EM w p A F q){y:Addr}(a:y.block∉A)(u:Value):EM (w.setCell y u) p A F q :=
 WZ (λx b=>CX _ _ _ _ (λe=>a (e ▸ b))) h
def seg_next:∀ {p:Nat} {A:List Nat} {F:List Pf} {q z:Nat} (b:Nat),EM w p (A++[z]) F q->z∉A->EM (w.setCell ⟨z,5,none⟩ (Cc b)) p (A++[z]) F b
 | p,[],_,q,z,b,h,_=>by
   obtain⟨f,r,rfl,c,d⟩:=h;exact⟨f,r,rfl,c.set 5 (Cc b),d⟩
 | p,a :: A,_,q,z,b,h,hz=>by
   obtain⟨f,r,rfl,c,d⟩:=h;have g:¬ a=z:=λe=>hz (e ▸ AZ ..);refine⟨f,r,rfl, ?_,seg_next b d (λi=>hz (BF _ i))⟩
   have e:(A++[z]).headD b=(A++[z]).headD q:=by cases A <;> rfl
   show Has _ a _ (JO f p ((A++[z]).headD b));rw[e];exact c.far g _
def pX{p:Nat}{b:Nat}{A:List Nat}{F:List Pf}{q:Nat}(a:Nat)(h:EM w p (b :: A) F q)(c:b∉A):EM (w.setCell ⟨b,4,none⟩ (Cc a)) a (b :: A) F q:=by
 obtain⟨f,r,rfl,d,e⟩:=h;exact⟨f,r,rfl,d.set 4 (Cc a),Xe e c _⟩
def Rl:∀ {p:Nat} {A B:List Nat} {F:List Pf} {q:Nat},EM w p (A++B) F q->∃ F1 F2,F=F1++F2/\EM w p A F1 (B.headD q)/\EM w (A.getLastD p) B F2 q
 | p,[],B,F,q,h=>⟨[],F,rfl,rfl,h⟩
 | p,a :: A,B,_,q,h=>by
   rw[F7]at h;obtain⟨f,r,rfl,b,c⟩:=h;obtain⟨F1,F2,rfl,d,g⟩:=Rl c
   have e:(A++B).headD q=A.headD (B.headD q):=by cases A <;> rfl
   rw[e]at b;refine⟨f :: F1,F2,rfl,⟨f,F1,rfl,b,d⟩, ?_⟩
   have i:(a :: A).getLastD p=A.getLastD a:=by cases A <;> rfl
   rw[i];exact g
def aK:∀ {p:Nat} {A B:List Nat} {F1 F2:List Pf} {q:Nat},EM w p A F1 (B.headD q)->EM w (A.getLastD p) B F2 q->EM w p (A++B) (F1++F2) q
 | p,[],B,F1,F2,q,h1,h2=>by rw[show F1=[]from h1];exact h2
 | p,a :: A,B,_,F2,q,h1,h2=>by
   obtain⟨f,r,rfl,b,c⟩:=h1
   have e:(A++B).headD q=A.headD (B.headD q):=by cases A <;> rfl
   have d:(a :: A).getLastD p=A.getLastD a:=by cases A <;> rfl
   rw[d]at h2;rw[F7];exact⟨f,r++F2,rfl,by rw[e];exact b,aK c h2⟩
def MY1 {p:Nat} {A1 A2:List Nat} {a:Nat} {F1 F2:List Pf} {f f':Pf} {q:Nat} (h:EM w p (A1++a :: A2) (F1++f :: F2) q) (u:A1.length=F1.length) (g:a∉A1) (i:a∉A2)
 (c:∀ x,x≠a->w'.heap[x]? = w.heap[x]?) (j:∀ x y,Has w a 166 (JO f x y)->Has w' a 166 (JO f' x y)):EM w' p (A1++a :: A2) (F1++f' :: F2) q:=by
 obtain⟨v,z,e,d,k⟩:=Rl h;have t:=UI d;obtain⟨l,m⟩:=nM e (by omega);subst l;subst m;obtain⟨f2,r,n,o,s⟩:=k
 injection n with e4 e5
 subst e4;subst e5;exact aK (WZ (λx b=>c x (λe=>g (e ▸ b))) d) ⟨f',F2,rfl,j _ _ o,WZ (λx b=>c x (λe=>i (e ▸ b))) s⟩
end
structure Ring (w:World) (e:Nat) (A:List Nat) (F:List Pf):Prop where
 nodup:(e :: A).Nodup
 ends:Has w e 166 (JO QE (A.getLastD e) (A.headD e))
 row:EM w e A F e
section
variable {w w':World} {e:Nat} {A A1 A2:List Nat} {a:Nat} {F F1 F2:List Pf} {f:Pf}
def Ring.len(h:Ring w e A F):A.length=F.length:=UI h.row
def Ring.lt(h:Ring w e A F):∀ x∈e :: A,x<w.heap.size:=λx a=>by
 rcases BI.1 a with rfl | a
 ·exact h.ends.lt
 ·exact seg_lt h.row x a
def Ring.kept(h:Ring w e A F)(a:∀ x∈e :: A,w'.heap[x]? = w.heap[x]?):Ring w' e A F :=
 ⟨h.nodup,(a e (AZ ..)).trans h.ends,WZ (λx b=>a x (BF _ b)) h.row⟩
def Ring.at(h:Ring w e (A1++a :: A2) (F1++f :: F2))(m:A1.length=F1.length):Has w a 166 (JO f (A1.getLastD e) (A2.headD e)):=by
 obtain⟨n,o,b,c,d⟩:=Rl h.row;have l:=UI c;obtain⟨g,i⟩:=nM b (by omega);subst g;subst i;obtain⟨f2,r,j,k,p⟩:=d
 injection j with e4 e5
 subst e4;subst e5;exact k
def Eg(A:List Nat)(z p:Nat):(A++[z]).getLastD p=z:=by
 induction A generalizing p with
 | nil=>rfl
 | cons a A b=>rw[F7];show List.getLastD (a :: (A++[z])) p=z;rw[QZ];exact b a
def Xh(A B:List Nat)(p:Nat):(A++B).getLastD p=B.getLastD (A.getLastD p):=by
 induction A generalizing p with
 | nil=>rfl
 | cons a A b=>rw[F7,QZ,QZ];exact b a
def Lm(A B:List Nat)(q:Nat):(A++B).headD q=A.headD (B.headD q):=by cases A <;> rfl
def WI(A:List Nat):A=[]\/∃ B z,A=B++[z]:=by
 rcases dJ A with h |⟨B,z,h⟩
 ·exact .inl h
 ·exact .inr ⟨B,z,by rw[h,Ab2]⟩
def Ring.leave (h:Ring w e (A1++a :: A2) (F1++f :: F2)) (L:A1.length=F1.length) :
 Ring ((w.setCell ⟨A1.getLastD e,5,none⟩ (Cc (A2.headD e))).setCell ⟨A2.headD e,4,none⟩ (Cc (A1.getLastD e))) e (A1++A2) (F1++F2):=by
 obtain⟨M,N,C,k,D⟩:=Rl h.row;have K:=UI k;obtain⟨E,F⟩:=nM C (by omega);subst E;subst F;obtain⟨f2,r,G,O,l⟩:=D
 injection G with e4 e5
 subst e4;subst e5;have s:=h.nodup;rw[FP,CZ]at s;obtain⟨u,n,n2,o⟩:=s;rw[FP]at n2;have m:e∉A1:=λc=>u (BL _ c);have i:e∉A2:=λc=>u (BC _ (BF _ c));have d:=h.ends;rw[Xh,QZ,Lm]at d
 have j:(e :: (A1++A2)).Nodup:=by
  rw[FP,CZ];exact⟨λc=>(BO.1 c).elim m i,n,n2.2,λx H y I=>o x H y (BF _ I)⟩
 rcases WI A1 with rfl |⟨g,z,rfl⟩
 ·rw [show F1=[] from k] at *
  rcases A2 with _ |⟨b,A2⟩
  ·rw [show F2=[] from l] at *;exact⟨j,(d.set 5 (Cc e)).set 4 (Cc e),rfl⟩
  ·have q:¬ e=b:=λx=>i (x ▸ AZ ..);refine⟨j, ?_, ?_⟩
   ·have:=(d.set 5 (Cc b)).far (p:=⟨b,4,none⟩) q (Cc e);rw[JU,QZ];rw[QZ]at this;exact this
   ·exact pX e (Xe l (y:=⟨e,5,none⟩) i (Cc b)) (FP.1 n2.2).1
 ·rw [Eg] at *;have v:¬ e=z:=λx=>m (x ▸ BC _ (BH.2 rfl))
  have t:z∉g:=λc=>by
   rw[CZ]at n;exact n.2.2 z c z (BH.2 rfl) rfl
  have A:z∉A2:=λc=>o z (BC _ (BH.2 rfl)) z (BF _ c) rfl
  rcases A2 with _ |⟨b,A2⟩
  ·rw [show F2=[] from l] at *;refine⟨j, ?_, ?_⟩
   ·have:=(d.far (p:=⟨z,5,none⟩) v (Cc e)).set 4 (Cc z);rw[GI,Eg];rw[Lm]at this ⊢;exact this
   ·rw [GI,GI];exact Xe (seg_next e k t) (y:=⟨e,4,none⟩) m _
  ·have q:¬ e=b:=λx=>i (x ▸ AZ ..);have B:b∉g++[z]:=λc=>o b c b (BF _ (AZ ..)) rfl;refine⟨j, ?_, ?_⟩
   ·have:=(d.far (p:=⟨z,5,none⟩) v (Cc b)).far (p:=⟨b,4,none⟩) q (Cc z);rw[Xh,Eg,QZ,Lm];rw[QZ,Lm]at this
    have J:(g.headD ([z].headD a))=g.headD ([z].headD ((b :: A2).headD e)):=by cases g <;> rfl
    rw[Lm,<- J];exact this
   ·refine aK ?_ ?_
    ·exact Xe (seg_next b k t) (y:=⟨b,4,none⟩) B _
    ·rw [Eg];exact pX z (Xe l (y:=⟨z,5,none⟩) A (Cc b)) (FP.1 n2.2).1
def Ring.QL1 (h:Ring w e A F) {t C:Value} (D:Has w a 166 #[.int .i64 f.n,.string f.s,.int .i64 f.pins,.bool f.dirty,t,C]) (k:a∉e :: A) :
 Ring ((((w.setCell ⟨a,4,none⟩ (Cc (A.getLastD e))).setCell ⟨a,5,none⟩ (Cc e)).setCell ⟨A.getLastD e,5,none⟩ (Cc a)).setCell ⟨e,4,none⟩ (Cc a)) e (A++[a]) (F++[f]):=by
 have b:¬ e=a:=λx=>k (x ▸ AZ ..);have d:a∉A:=λc=>k (BF _ c);obtain⟨i,j⟩:=FP.1 h.nodup
 have l:(e :: (A++[a])).Nodup:=by
  rw[FP,CZ];refine⟨λc=>(BO.1 c).elim i (λg=>b (BH.1 g)),j,by simp,λu E v G=>?_⟩;rw[BH.1 G];exact λx=>d (x ▸ E)
 have m:=(D.set 4 (Cc (A.getLastD e))).set 5 (Cc e);have g:=(h.ends.far (p:=⟨a,4,none⟩) b (Cc (A.getLastD e))).far (p:=⟨a,5,none⟩) b (Cc e);have H:=Xe (Xe h.row (y:=⟨a,4,none⟩) d (Cc (A.getLastD e))) (y:=⟨a,5,none⟩) d (Cc e)
 rcases WI A with rfl |⟨B,z,rfl⟩
 ·rw [show F=[] from h.row];exact⟨l,(g.set 5 (Cc a)).set 4 (Cc a),⟨f,[],rfl,(m.far (p:=⟨e,5,none⟩) (OJ b) (Cc a)).far (p:=⟨e,4,none⟩) (OJ b) (Cc a),rfl⟩⟩
 ·rw [Eg] at *;have o:¬ a=z:=λx=>d (x ▸ BC _ (BH.2 rfl));have q:¬ e=z:=λx=>i (x ▸ BC _ (BH.2 rfl))
  have r:z∉B:=λc=>by
   rw[CZ]at j;exact j.2.2 z c z (BH.2 rfl) rfl
  refine⟨l, ?_, ?_⟩
  ·have:=(g.far (p:=⟨z,5,none⟩) q (Cc a)).set 4 (Cc a);rw[Eg,Lm,Lm];rw[Lm]at this;exact this
  ·refine aK (Xe (seg_next a H r) (y:=⟨e,4,none⟩) i _) ?_;rw[Eg];exact⟨f,[],rfl,(m.far (p:=⟨z,5,none⟩) o (Cc a)).far (p:=⟨e,4,none⟩) (OJ b) (Cc a),rfl⟩
end
end Go.Proofs.YtjihboddejaelaaGreat
namespace Go.Proofs.YtjihboddejaelaaGreat
def PO(c:Nat):Nat:=if c % 2=1 then(c / 2) ^^^ 3988292384 else c / 2
def Zd:Nat->Nat->Nat
 | 0,c=>c
 | k+1,c=>Zd k (PO c)
def Vt:∀ (k c:Nat),Zd (k+1) c=PO (Zd k c)
 | 0,_=>rfl
 | k+1,c=>by rw[Zd,Vt k (PO c)];rfl
def zO(c b:Nat):Nat:=Zd 8 (c ^^^ b)
def O9(c:Nat)(l:List UInt8):Nat:=l.foldl (λc b=>zO c b.toNat) c
def I5(l:List UInt8):Nat:=4294967295-O9 4294967295 l
def vI{c:Nat}(h:c<4294967296):PO c<4294967296:=by
 unfold PO
 split
 ·exact Nat.xor_lt_two_pow (n:=32) (by omega) (by omega)
 ·omega
def YV0(c:Nat)(l:List UInt8)(b:UInt8):O9 c (l++[b])=zO (O9 c l) b.toNat:=by simp[O9]
def eQ(l:List UInt8):I5 l<4294967296:=by unfold I5;omega
def JS1{c b:Nat}(h:c<4294967296)(a:b<256):c ^^^ b<4294967296:=Nat.xor_lt_two_pow (n:=32) (by omega) (by omega)
open Go.RowKit Go.BigFrame
def and_one{c:Nat}(h:c<4294967296):bits .and .u32 (c:Int) 1=((c % 2:Nat):Int):=by
 have:=u32_and_nat c 1 h (by omega);rw[nat_mask1]at this;exact this
def LS1{c:Nat}(h:c<4294967296):bits .xor .u32 (c:Int) 3988292384=((c ^^^ 3988292384:Nat):Int):=u32_xor_nat c 3988292384 h (by omega)
def JM1{c b:Nat}(h:c<4294967296)(a:b<256):bits .xor .u32 (c:Int) ((b:Int) % 4294967296)=((c ^^^ b:Nat):Int):=by
 rw[show(b:Int) % 4294967296=(b:Int)by omega];exact u32_xor_nat c b h (by omega)
def MT1{e:Nat}(b:e<4294967296)(a:e % 2=1):bits .xor .u32 ((e:Int) / 2) 3988292384=((PO e:Nat):Int):=by
 rw[show((e:Int) / 2)=((e / 2:Nat):Int)by omega,LS1 (by omega),PO,AC a]
def KB1{e:Nat}(a:¬ e % 2=1):((e:Int) / 2)=((PO e:Nat):Int):=by
 rw[PO,AO a];omega
def LT1{s:ByteArray}{i c d k e:Nat}(a:i<s.size)(b:c=O9 4294967295 (s.data.toList.take i))(f:c ^^^ s[i].toNat=d)(g:e=Zd k d)(h:k=8):e=O9 4294967295 (s.data.toList.take (i+1)):=by
 subst h;rw[JS (by simpa using a),YV0,<- b,g,<- f];rfl
def KQ1{c:Nat}(h:c<4294967296):4294967295 ^^^ c=4294967295-c:=by
 have a:(BitVec.ofNat 32 c ^^^ BitVec.allOnes 32).toNat=(~~~ BitVec.ofNat 32 c).toNat:=by rw[BitVec.xor_allOnes]
 rw[BitVec.toNat_xor,BitVec.toNat_not,BitVec.toNat_allOnes,dP,XX (show c<2 ^ 32 by omega),Nat.xor_comm]at a;exact a
def OC1{c:Nat}(h:c<4294967296):bits .xor .u32 IntKind.u32.max (c:Int)=((4294967295-c:Nat):Int):=by
 have:=u32_xor_nat 4294967295 c (by omega) h;rw[KQ1 h]at this;exact this
def pF (s:ByteArray) (w:World) (B:s.size<=9223372036854775807) :
 Calls Tryz.prog 194 #[.string s] w λe w'=>e = .returned (.int .u32 (I5 s.data.toList:Nat))/\w=w':=by
 go_enter Tryz.func194,Tryz.ntmps194
 go_wp2_with fail
 go_loop [3,4] (λg h=>∃ i c:Nat,i<=s.size/\c<4294967296/\g = .int .u32 c/\h = .int .i64 i/\c=O9 4294967295 (s.data.toList.take i)) (λ_ h=>s.size-(intOf h).toNat)
 case atStart=>exact⟨0,4294967295,BR _,by omega,rfl,rfl,rfl⟩
 case round =>
  obtain⟨i,c,C,j,rfl,rfl,p⟩:=hrel;have q:=Ac p;clear p;by_cases u:i<s.size
  ·have v:=JM1 j (Ic s[i])
   have o:c ^^^ s[i].toNat<4294967296:=JS1 j (Ic s[i]);obtain⟨d,l⟩:∃ d,c ^^^ s[i].toNat=d:=⟨_,rfl⟩;rw[l]at v o;have x:=Ac l;clear l;obtain⟨r,rfl⟩:∃ r:World,r=w:=⟨_,rfl⟩
   go_wp2_with fail
   go_loop [3,17] (λg f=>∃ k e:Nat,k<=8/\e<4294967296/\g = .int .u32 e/\f = .int .i64 k/\e=Zd k d) (λ_ f=>8-(intOf f).toNat)
   case atStart=>exact⟨0,d,by omega,o,rfl,rfl,rfl⟩
   case round =>
    obtain⟨k,e,D,a,rfl,rfl,t⟩:=hrel;have m:=Ac t;clear t;by_cases A:k<8
    ·by_cases b:e % 2=1
     ·have y:bits .and .u32 (e:Int) 1=1:=by rw [and_one a,b];rfl
      have n:=Ac b;clear b;have F:=MT1 a n
      go_wp2_with fail
      go_round
      case rel=>exact⟨k+1,_,by omega,vI a,rfl,by simp,by rw[m.out,Vt]⟩
      case measure=>simp[intOf];omega
     ·have y:bits .and .u32 (e:Int) 1=0:=by rw [and_one a,show e % 2=0 by omega];rfl
      have n:=Ac b;clear b
      go_wp2_with fail
      go_round
      case rel=>exact⟨k+1,_,by omega,vI a,by rw[KB1 n.out],by simp,by rw[m.out,Vt]⟩
      case measure=>simp[intOf];omega
    ·have z:=Ac (LT1 u q x m (by omega))
     go_wp2_with fail
     go_round
     case rel=>exact⟨i+1,e,by omega,a,rfl,by simp,z⟩
     case measure=>simp[intOf];omega
  ·obtain rfl:i=s.size:=by omega
   have T:O9 4294967295 (s.data.toList.take s.size)=O9 4294967295 s.data.toList:=by rw[EE (by simp)]
   have E:=Ac (show bits .xor .u32 IntKind.u32.max (c:Int)=((I5 s.data.toList:Nat):Int)by rw[OC1 j,q.out,T];rfl);clear T
   go_wp2_with fail
   go_ret;exact⟨UN E,rfl⟩
def iP(n:Nat)(a:n<=9223372036854775807)(w:World):Calls Tryz.prog 192 #[.int .i64 n] w λe w'=>∃ g,e = .returned (.slice (some ⟨g,0,none⟩) 2 2)/\Has w' g 5 (CG (BJ n 2)).toArray/\Below w.heap.size w w'/\w.heap.size<=g:=by
 have E:=Ac (show CG (BJ n 2)=[.int .u8 ((n:Int) / 256 % 256),.int .u8 ((n:Int) % 256)]by
  rw[UJ];simp only[CG,LU,DW,KT,Iw];rw[show((n / 256:Nat):Int)=(n:Int) / 256 by omega])
 go_enter Tryz.func192,Tryz.ntmps192
 go_wp2
 go_ret;refine⟨_,rfl, ?_,(AU _ _).alloc (AY _) _,AY _⟩;rw[E.out];exact Has.new w _ _
def GK1(n:Nat)(E:n<=4294967295)(w:World):Calls Tryz.prog 193 #[.int .i64 n] w (EM1 w (BJ n 4)):=by
 obtain⟨q,r,h,i,j⟩:=IP infoByte;have b:=λw1=>iP (n / 65536) (by omega) w1;rw[show((n / 65536:Nat):Int)=(n:Int) / 65536 by omega]at b;have s:=Ac b;clear b;have t:=Ac (λw1=>iP n (by omega) w1);have u:=Ac (oW n)
 have v:2+2<=maxLen:=by unfold maxLen;omega
 go_enter Tryz.func193,Tryz.ntmps193
 go_wp2_with (first |(go_at_call 192;(with_reducible refine(s.out _).mono ?_);rintro F w1 ⟨x,rfl,d,a,k⟩;have y:=Ac d;clear d) |(go_at_call 192;(with_reducible refine(t.out _).mono ?_);rintro G H ⟨z,rfl,e,hb2,D⟩;have m:=Ac (y.Ai hb2);have o:=Ac e;clear e) |(at_builtin;go_loud (refine BR0 rfl (.tmp 5) (.tmp 7) 39 39 rfl w.heap.size 5 q _ 1 1 IV r h i j rfl x 2 (CG (BJ (n / 65536) 2)) rfl (m.own k rfl (by unfold maxLen;omega)) (.slice (some ⟨z,0,none⟩) 2 2) 2 (CG (BJ n 2)) rfl ((BS.VS o).src IV) v (by omega) (BN a.size hb2.size) ?_);intro f g I c p;have A:=Ac c;clear c))
 go_ret;obtain⟨J,K,B,_,C⟩:=BS.Ed (l:=BJ n 4) (n:=4) (by rw[u.out,Xn];exact A)
 cases B
 refine⟨f,g,by show _=Ending.returned (.slice f (BJ n 4).length g);rw[Bj];rfl,by rw[Bj];exact C,Ap (Ap a hb2 a.size) p (BN a.size hb2.size)⟩
end Go.Proofs.YtjihboddejaelaaGreat
namespace Go.Proofs.YtjihboddejaelaaGreat
open Go.RowKit
def Ce(cs:List ByteArray):Nat:=(cs.map λc=>4+c.size).sum
def yB(cs:List ByteArray)(c:ByteArray):Ce (cs++[c])=Ce cs+(4+c.size):=by simp[Ce]
def ON0(a b:List ByteArray):Ce (a++b)=Ce a+Ce b:=by simp[Ce]
def BP0(cs:List ByteArray)(i:Nat):Ce (cs.take i)<=Ce cs:=by
 have h:=ON0 (cs.take i) (cs.drop i);rw[DX]at h;omega
def YL0(cs:List ByteArray){i:Nat}(h:i<cs.length):Ce (cs.take (i+1))=Ce (cs.take i)+(4+cs[i].size):=by
 rw[JS h,yB]
def Jn(cs:List ByteArray):Nat:=(cs.map λc=>2+c.size).sum
def BD1(cs:List ByteArray)(c:ByteArray):Jn (cs++[c])=Jn cs+(2+c.size):=by simp[Jn]
def Yd(cs:List ByteArray){i:Nat}(h:i<cs.length):Jn (cs.take (i+1))=Jn (cs.take i)+(2+cs[i].size):=by
 rw[JS h,BD1]
def uQ(cs:List ByteArray):Ce cs=Jn cs+2*cs.length:=by
 induction cs with
 | nil=>rfl
 | cons c cs a=>simp only[Ce,Jn,DW,PW,DF]at *;omega
def Kw:List ByteArray->List UInt8
 | []=>[]
 | c :: cs=>Kw cs++(BJ c.size 2++c.data.toList)
def xQ(cs:List ByteArray)(c:ByteArray):Kw (cs++[c])=BJ c.size 2++c.data.toList++Kw cs:=by
 induction cs with
 | nil=>simp[Kw]
 | cons d cs a=>rw[F7,Kw,a,Kw];simp
def jA(cs:List ByteArray):(Kw cs).length=Jn cs:=by
 induction cs with
 | nil=>rfl
 | cons c cs a=>simp only[Kw,A8,a,Bj,Jn,DW,PW,JX];rw[show c.data.size=c.size from rfl];omega
def Zi (cs:List ByteArray):Nat->List UInt8
 | 0=>[]
 | i+1=>Zi cs i++BJ (1024-Jn (cs.take (i+1))) 2
def Zw (cs:List ByteArray):∀ i,(Zi cs i).length=2*i
 | 0=>rfl
 | i+1=>by rw[Zi,A8,Zw cs i,Bj];omega
def TV(k l n:Nat):List UInt8:=[UInt8.ofNat k,0]++BJ n 2++BJ l 4
def sQ(k l n:Nat):(TV k l n).length=8:=by simp[TV,Bj]
def GN(k l:Nat)(cs:List ByteArray)(i:Nat):List UInt8:=TV k l cs.length++Zi cs i++List.replicate (1012-2*i-Jn (cs.take i)) 0++Kw (cs.take i)
def WU{cs:List ByteArray}(h:Ce cs<=1012)(i:Nat)(a:i<=cs.length):Jn (cs.take i)+2*i<=1012:=by
 have:=uQ (cs.take i);have b:=BP0 cs i;rw[CU,MC a]at this;omega
def aC{k l:Nat}{cs:List ByteArray}(h:Ce cs<=1012){i:Nat}(a:i<=cs.length):(GN k l cs i).length=1020:=by
 have:=WU h i a;simp only[GN,A8,sQ,Zw,nG,jA];omega
def Rx(k l:Nat)(cs:List ByteArray):List UInt8:=BJ (I5 (GN k l cs cs.length)) 4++GN k l cs cs.length
def Zx{k l:Nat}{cs:List ByteArray}(h:Ce cs<=1012):(Rx k l cs).length=1024:=by
 simp only[Rx,A8,Bj,aC h (AY _)]
section
variable {α:Type}
def bF(a m b x:List α)(c:x.length=m.length):splice (a++m++b) a.length x=a++x++b:=by
 unfold splice
 have d:(a++m++b).take a.length=a:=by rw[BU,PV]
 have e:(a++m++b).drop (a.length+x.length)=b:=by rw[c,<- A8,dL]
 rw[d,e,BU]
def lK{a m b x:List α}{o:Nat}(c:a.length=o)(d:x.length=m.length):splice (a++m++b) o x=a++x++b:=by
 subst c;exact bF a m b x d
def Tz(L:List α)(o:Nat)(x:List α)(h:o+x.length<=L.length):(splice L o x).length=L.length:=length_splice L o x h
def TZ0(L:List α)(o:Nat):splice L o []=L:=by simp[splice]
end
def KX(k l:Nat)(cs:List ByteArray)(i:Nat):List UInt8:=[0,0,0,0]++GN k l cs i
def TC0(k l:Nat)(cs:List ByteArray):splice (splice ((List.replicate 1024 (0:UInt8)).set 4 (UInt8.ofNat k)) 6 (BJ cs.length 2)) 8 (BJ l 4)=KX k l cs 0:=by
 have a:(List.replicate 1024 (0:UInt8)).set 4 (UInt8.ofNat k)=[0,0,0,0,UInt8.ofNat k,0]++[0,0]++List.replicate 1016 0:=by
  rw[show(1024:Nat)=5+1019 from rfl,<- mZ];rw[show(1019:Nat)=3+1016 from rfl,<- mZ];rfl
 rw[a,show(6:Nat)=([0,0,0,0,UInt8.ofNat k,0]:List UInt8).length from rfl,bF _ _ _ _ (by rw[Bj];rfl)]
 have b:(List.replicate 1016 (0:UInt8))=[0,0,0,0]++List.replicate 1012 0:=by
  rw[show(1016:Nat)=4+1012 from rfl,<- mZ];rfl
 rw[b,<- BU,show(8:Nat)=([0,0,0,0,UInt8.ofNat k,0]++BJ cs.length 2:List UInt8).length by simp[Bj],bF _ _ _ _ (by rw[Bj];rfl)];have c:1012-2*0-Jn (cs.take 0)=1012:=rfl;simp only[KX,GN,TV,Zi,c,DZ,Kw,GI,BU];rfl
def AV1 {k l:Nat} {cs:List ByteArray} (h:Ce cs<=1012) {i:Nat} (c:i<cs.length) :
 splice (splice (splice (KX k l cs i) (12+2*i) (BJ (1024-Jn (cs.take (i+1))) 2)) (1024-Jn (cs.take (i+1))) (BJ cs[i].size 2)) (1024-Jn (cs.take (i+1))+2) cs[i].data.toList=KX k l cs (i+1):=by
 have w:=WU h (i+1) (by omega);have x:=Yd cs c
 have g:Kw (cs.take (i+1))=BJ cs[i].size 2++cs[i].data.toList++Kw (cs.take i):=by rw[JS c,xQ]
 have v:=jA (cs.take i)
 have e:cs[i].data.toList.length=cs[i].size:=by simp
 generalize j:Jn (cs.take (i+1))=B at *;generalize f:Jn (cs.take i)=n at *;generalize y:cs[i].size=m at *;generalize z:cs[i].data.toList=d at *
 have o:1012-2*i-n=2+(1012-2*(i+1)-B)+2+m:=by omega
 obtain⟨P,a⟩:∃ P:List UInt8,[0,0,0,0]++TV k l cs.length++Zi cs i=P:=⟨_,rfl⟩;obtain⟨Z,b⟩:∃ Z:List UInt8,List.replicate (1012-2*(i+1)-B) 0=Z:=⟨_,rfl⟩
 have p:KX k l cs i=P++[0,0]++(Z++([0,0]++(List.replicate m 0++Kw (cs.take i)))):=by
  rw[<- a,<- b];simp only[KX,GN,f,o,<- mZ,BU];rfl
 have l1:P.length=12+2*i:=by rw[<- a];simp only[A8,sQ,Zw];rfl
 have q:Z.length=1012-2*(i+1)-B:=by rw[<- b,nG]
 have r:splice (P++[0,0]++(Z++([0,0]++(List.replicate m 0++Kw (cs.take i))))) (12+2*i) (BJ (1024-B) 2)=(P++BJ (1024-B) 2++Z)++[0,0]++(List.replicate m 0++Kw (cs.take i)):=by
  rw[lK l1 (by rw[Bj];rfl)];simp only[BU]
 have l2:(P++BJ (1024-B) 2++Z).length=1024-B:=by rw[A8,A8,l1,Bj,q];omega
 have s:splice ((P++BJ (1024-B) 2++Z)++[0,0]++(List.replicate m 0++Kw (cs.take i))) (1024-B) (BJ m 2)=(P++BJ (1024-B) 2++Z++BJ m 2)++List.replicate m 0++Kw (cs.take i):=by
  rw[lK l2 (by rw[Bj];rfl)];simp only[BU]
 have t:(P++BJ (1024-B) 2++Z++BJ m 2).length=1024-B+2:=by rw[A8,l2,Bj]
 have u:splice ((P++BJ (1024-B) 2++Z++BJ m 2)++List.replicate m 0++Kw (cs.take i)) (1024-B+2) d=(P++BJ (1024-B) 2++Z++BJ m 2)++d++Kw (cs.take i):=by
  rw[lK t (by rw[e,nG])]
 rw[p,r,s,u,<- a,<- b];simp only[KX,GN,j,Zi,g,BU]
def DC1{k l:Nat}{cs:List ByteArray}:splice (KX k l cs cs.length) 0 (BJ (I5 (GN k l cs cs.length)) 4)=Rx k l cs:=by
 have:=bF [] [0,0,0,0] (GN k l cs cs.length) (BJ (I5 (GN k l cs cs.length)) 4) (by rw[Bj];rfl);simpa[KX,Rx]using this
def Ql{k l:Nat}{cs:List ByteArray}(h:Ce cs<=1012){i:Nat}(a:i<=cs.length):(KX k l cs i).length=1024:=by
 simp only[KX,A8,aC h a];rfl
def oI:∀ e:List Value,e.length=4->∃ a b c d,e=[a,b,c,d]
 | [a,b,c,d],_=>⟨a,b,c,d,rfl⟩
def YR:∀ f:List Value,f.length=5->∃ a b c d e,f=[a,b,c,d,e]
 | [a,b,c,d,e],_=>⟨a,b,c,d,e,rfl⟩
def YQ:∀ g:List Value,g.length=6->∃ a b c d e f,g=[a,b,c,d,e,f]
 | [a,b,c,d,e,f],_=>⟨a,b,c,d,e,f,rfl⟩
def oH:∀ h:List Value,h.length=7->∃ a b c d e f g,h=[a,b,c,d,e,f,g]
 | [a,b,c,d,e,f,g],_=>⟨a,b,c,d,e,f,g,rfl⟩
def dU:∀ i:List Value,i.length=8->∃ a b c d e f g h,i=[a,b,c,d,e,f,g,h]
 | [a,b,c,d,e,f,g,h],_=>⟨a,b,c,d,e,f,g,h,rfl⟩
def gU:∀ k:List Value,k.length=10->∃ a b c d e f g h i j,k=[a,b,c,d,e,f,g,h,i,j]
 | [a,b,c,d,e,f,g,h,i,j],_=>⟨a,b,c,d,e,f,g,h,i,j,rfl⟩
def uH:∀ n:List Value,n.length=13->∃ d e f g h i j k l m a b c,n=[d,e,f,g,h,i,j,k,l,m,a,b,c]
 | [d,e,f,g,h,i,j,k,l,m,a,b,c],_=>⟨d,e,f,g,h,i,j,k,l,m,a,b,c,rfl⟩
def uF:∀ q:List Value,q.length=16->∃ g h i j k l m n o p a b c d e f,q=[g,h,i,j,k,l,m,n,o,p,a,b,c,d,e,f]
 | [g,h,i,j,k,l,m,n,o,p,a,b,c,d,e,f],_=>⟨g,h,i,j,k,l,m,n,o,p,a,b,c,d,e,f,rfl⟩
def sZ:∀ r:List Value,r.length=17->∃ h i j k l m n o p q a b c d e f g,r=[h,i,j,k,l,m,n,o,p,q,a,b,c,d,e,f,g]
 | [h,i,j,k,l,m,n,o,p,q,a,b,c,d,e,f,g],_=>⟨h,i,j,k,l,m,n,o,p,q,a,b,c,d,e,f,g,rfl⟩
def Y9:∀ u:List Value,u.length=20->∃ k l m n o p q r s t a b c d e f g h i j,u=[k,l,m,n,o,p,q,r,s,t,a,b,c,d,e,f,g,h,i,j]
 | [k,l,m,n,o,p,q,r,s,t,a,b,c,d,e,f,g,h,i,j],_=>⟨k,l,m,n,o,p,q,r,s,t,a,b,c,d,e,f,g,h,i,j,rfl⟩
def Bq:List Oper->List Value->Act->Act
 | o :: l,u :: us,a=>Bq l us (a.put o.dst u)
 | _,_,a=>a
def dZ(a:Act)(x:Option Tmp)(u v:Value):(a.put x u).put x v=a.put x v:=by
 cases x with
 | none=>rfl
 | some d=>simp[Act.put,Array.setIfInBounds_setIfInBounds]
def LI1(a:Act)(x:Option Tmp):∃ u,a.put x u=a:=by
 cases x with
 | none=>exact⟨undef,rfl⟩
 | some d =>
   refine⟨a.tmps.getD d undef, ?_⟩
   have:a.tmps.setIfInBounds d (a.tmps.getD d undef)=a.tmps:=by
    apply Array.ext
    ·simp
    ·intro i c b;rw[Array.getElem_setIfInBounds]
     split
     ·rename_i e;subst e;simp[oC,b]
     ·rfl
   show({ a with tmps:=_ }:Act)=a;rw[this]
def uU (x:Option Tmp) (v:Value):∀ (l:List Oper) (b:List Value) (a:Act),(∀ o∈l,∀ d,x=some d->o.dst≠some d)->(Bq l b a).put x v=Bq l b (a.put x v)
 | [],_,_,_=>by simp[Bq]
 | _ :: _,[],_,_=>by simp[Bq]
 | o :: l,u :: b,a,h=>by
   simp only[Bq];rw[uU x v l b _ (λy c=>h y (BF _ c)),Act.put_comm a (x:=o.dst) (y:=x) u v (λd e f=>h o (AZ ..) d f e)]
def Xo:∀ (l:List Oper) (a:Act),∃ b,b.length=l.length/\Bq l b a=a
 | [],a=>⟨[],rfl,rfl⟩
 | o :: l,a=>by
   obtain⟨u,c⟩:=LI1 a o.dst;obtain⟨b,d,e⟩:=Xo l a;exact⟨u :: b,by simp[d],by simp only[Bq];rw[c,e]⟩
def Jk:List Oper->Bool
 | []=>true
 | o :: l=>(l.all λy=>match o.dst with | some d=>y.dst != some d | none=>true) && Jk l
def Zt (v:Value):∀ (l:List Oper) (b:List Value) (i:Nat) (o:Oper) (a:Act),Jk l=true->b.length=l.length->l[i]? = some o->(Bq l b a).put o.dst v=Bq l (b.set i v) a
 | [],_,_,_,_,_,_,h=>by simp at h
 | x :: l,u :: b,i,o,a,hd,hl,hi=>by
   simp only[Jk,QA,VR]at hd
   cases i with
   | zero =>
     simp only[nH,XW]at hi;subst hi;simp only[Bq,EF];rw[uU _ _ _ _ _ (λy c d e=>by have:=hd.1 y c;rw[e]at this;simpa using this),dZ]
   | succ i =>
     simp only[nI]at hi;simp only[Bq,EH];exact Zt v l b i o _ hd.2 (by simpa using hl) hi
 | _ :: _,[],_,_,_,_,hl,_=>by simp at hl
def Pm(md:Region.Mode)(n:Nat)(acc:List (List Bool))(o:Oper):List Bool :=
 (List.range n).map λj=>o.after.toList.any λe=>Region.binds md e && (e.on == j ||(acc.getD e.on []).getD j false)
def Vs(md:Region.Mode)(n:Nat)(l:List Oper):List (List Bool):=l.foldl (λacc o=>acc++[Pm md n acc o]) []
def AL1(md:Region.Mode)(n:Nat)(l:List Oper)(o:Oper):Vs md n (l++[o])=Vs md n l++[Pm md n (Vs md n l) o]:=by
 simp[Vs,dF]
def ED0 (md:Region.Mode) (n:Nat):∀ (l:List Oper) (acc:List (List Bool)),(l.foldl (λacc o=>acc++[Pm md n acc o]) acc).length=acc.length+l.length
 | [],acc=>by simp
 | o :: l,acc=>by
   rw[dE,ED0 md n l,A8,DF,DF,cZ];omega
def QX0(md:Region.Mode)(n:Nat)(l:List Oper):(Vs md n l).length=l.length:=by
 unfold Vs;rw[ED0];simp
def DZ0 (md:Region.Mode) (n:Nat):∀ (r:List Oper) (acc:List (List Bool)),∃ t,r.foldl (λacc o=>acc++[Pm md n acc o]) acc=acc++t
 | [],acc=>⟨[],by simp⟩
 | o :: r,acc=>by
   obtain⟨t,a⟩:=DZ0 md n r (acc++[Pm md n acc o]);exact⟨Pm md n acc o :: t,by rw[dE,a,BU];rfl⟩
def PK0(md:Region.Mode)(n:Nat)(l r:List Oper):∃ t,Vs md n (l++r)=Vs md n l++t:=by
 unfold Vs;rw[dF];exact DZ0 md n r _
def waits(md:Region.Mode)(l:List Oper)(k j:Nat):Bool:=((Vs md l.length l).getD k []).getD j false
def Kq{md:Region.Mode}{l:List Oper}{k j:Nat}{o:Oper}(g:l[k]? = some o)(h:waits md l k j=true):∃ e∈o.after,Region.binds md e=true/\(e.on=j\/(e.on<k/\waits md l e.on j=true)):=by
 have r:k<l.length:=(C9.1 g).1
 have i:l=l.take k++[o]++l.drop (k+1):=by
  rw[BU,List.singleton_append,<-(C9.1 g).2,<- FQ r,DX]
 obtain⟨t,b⟩:=PK0 md l.length (l.take k++[o]) (l.drop (k+1));rw[<- i,AL1]at b
 have m:(Vs md l.length (l.take k)).length=k:=by rw[QX0,CU];omega
 have p:(Vs md l.length l).getD k []=Pm md l.length (Vs md l.length (l.take k)) o:=by
  rw[b,BU,LH,GU (by omega),m];simp
 have n:∀ q,q<k->(Vs md l.length l).getD q []=(Vs md l.length (l.take k)).getD q []:=λq x=>by
  rw[b,BU,LH,G9 (by omega),LH]
 unfold waits at h;rw[p]at h
 have s:j<l.length:=by
  rcases JR j l.length with a | a
  ·exact a
  ·rw [LH,MH (by simpa [Pm] using a)] at h
   cases h
 have u:(o.after.toList.any λe=>Region.binds md e && (e.on == j ||((Vs md l.length (l.take k)).getD e.on []).getD j false))=true:=by
  rw[LH]at h;unfold Pm at h;rw[GH,YG s]at h;exact h
 obtain⟨e,v,c⟩:=VQ.1 u;simp only[QA,YK,OG]at c;refine⟨e,by simpa using v,c.1,c.2.imp id λd=>?_⟩
 have f:e.on<k:=by
  rcases JR e.on k with a | a
  ·exact a
  ·have w:(Vs md l.length (l.take k)).getD e.on []=[]:=by rw [LH,MH (by omega)];rfl
   rw[w]at d;simp at d
 exact⟨f,by unfold waits;rw[n _ f];exact d⟩
def WW (md:Region.Mode):Nat->List Oper->Bool
 | _,[]=>true
 | k,o :: l=>(o.after.toList.all λe=>!Region.binds md e || decide (e.on<k)) && WW md (k+1) l
def lQ {md:Region.Mode}:∀ {k:Nat} {l:List Oper},WW md k l=true->∀ (i:Nat) (o:Oper),l[i]? = some o->∀ e∈o.after,Region.binds md e=true->e.on<k+i
 | _,[],_,_,_,h,_,_,_=>by simp at h
 | k,x :: l,hB,i,o,hi,e,he,hb=>by
   simp only[WW,QA,VR,YK,lV]at hB
   cases i with
   | zero =>
     simp only[nH,XW]at hi;subst hi
     rcases hB.1 e (by simpa using he)with h | h
     ·simp[hb]at h
     ·simpa using h
   | succ i =>
     have:=lQ hB.2 i o (by simpa using hi) e he hb;omega
def MK(md:Region.Mode)(m:Nat)(l:List Oper):Bool :=
 WW md 0 l && (List.range l.length).all λk=>decide (k<m) ||(List.range k).all λj=>waits md l k j
def Hg{md:Region.Mode}{m:Nat}{l:List Oper}(h:MK md m l=true){i:Nat}{o:Oper}(a:l[i]? = some o){e:Edge}(b:e∈o.after)(c:Region.binds md e=true):e.on<i:=by
 simp only[MK,QA]at h;have:=lQ h.1 i o a e b c;omega
def Zm{md:Region.Mode}{m:Nat}{l:List Oper}(h:MK md m l=true){k j:Nat}(b:k<l.length)(d:m<=k)(c:j<k):waits md l k j=true:=by
 simp only[MK,QA,VR,cO,YK,lV]at h
 rcases h.2 k b with a | a
 ·omega
 ·exact a j c
def SO0{md:Region.Mode}{m:Nat}{l:List Oper}(c:MK md m l=true):∀{k j:Nat},k<j->j<l.length->waits md l k j=false:=by
 intro k
 induction k using Nat.strongRecOn with
 | _ k d =>
   intro j o f
   cases g:waits md l k j with
   | false=>rfl
   | true =>
     exfalso
     have a:l[k]? = some l[k]:=by simp
     obtain⟨e,i,n,h⟩:=Kq a g;have b:=Hg c a i n
     rcases h with h |⟨_,h⟩
     ·omega
     ·rw[d e.on b (by omega) f]at h;cases h
section
variable {P:Program} {md:Region.Mode} {Q:Exit->Act->World->Prop}
def getD_lt{l:Array Bool}{j:Nat}(h:j<l.size)(d:Bool):l.getD j d=l[j]:=by simp[oC,h]
def Dt{l:Array Bool}{i j:Nat}(d:Bool):(l.setIfInBounds i true).getD j d=if i=j/\j<l.size then true else l.getD j d:=by
 by_cases a:j<l.size
 ·rw [getD_lt (by simpa using a),getD_lt a,Array.getElem_setIfInBounds]
  ·simp[a]
  ·exact a
 ·rw [AO (λh=>a h.2)];simp[oC,a]
def Ue {ops:Array Oper} {m:Nat} (f:MK md m ops.toList=true):∀ (c:List Oper) (k:Nat) (a:Array Bool) (b:Act) (w:World),m<=k->a.size=ops.size->(∀ j,j<k->a.getD j false=true) ->
 (∀ j,k<=j->j<ops.size->a.getD j true=false)->c=ops.toList.drop k->wpList P ops Q c b w->wpAny P md ops Q c.length a b w
 | [],k,a,b,w,_,hs,ht,_,hr,h=>by
   refine⟨?_,h⟩
   have M:ops.size<=k:=by
    have:=D8 List.length hr;simp at this;omega
   apply List.eq_nil_iff_forall_not_mem.2;intro j u;obtain⟨n,o,G,_⟩:=MB.1 u;have r:j<ops.size:=(LK.1 G).1;have:=ht j (by omega);rw[getD_lt (by omega)]at n this
   rw[n]at this;cases this
 | o :: c,k,a,b,w,hm,hs,ht,hf,hr,h=>by
   have r:k<ops.size:=by
    have:=D8 List.length hr;simp at this;omega
   have s:ops[k]? = some o:=by
    have:(ops.toList.drop k)[0]? = some o:=by rw[<- hr];rfl
    simpa using this
   have z:c=ops.toList.drop (k+1):=by
    have:=D8 List.tail hr;simpa using this
   have x:k∈Region.ready md ops a:=MB.2 ⟨hf k (AY _) r,o,s,λe p q=>ht _ (by
    exact Hg f (i:=k) (o:=o) (by simpa using s) p q)⟩
   refine⟨(λn=>by rw[n]at x;cases x),λi H=>?_⟩;obtain⟨y,oi,t,A⟩:=MB.1 H;have B:i<ops.size:=(LK.1 t).1
   have K:¬ i<k:=λg=>by
    have:=ht i g;rw[getD_lt (by omega)]at y this
    rw[y]at this;cases this
   have L:¬ k<i:=λg=>by
    obtain⟨e,p,q,C⟩:=Kq (by simpa using t) (Zm f (k:=i) (j:=k) (by simpa using B) (by omega) g);have l:=A e p q
    have D:e.on<ops.size:=by have:=Hg f (i:=i) (o:=oi) (by simpa using t) p q;omega
    have E:k<=e.on:=by
     rcases C with d |⟨_,d⟩
     ·omega
     ·rcases JR e.on k with v | v
      ·exact absurd d (by rw[SO0 f v r];simp)
      ·exact v
    have d:=hf e.on E D;rw[getD_lt (by omega)]at l d
    rw[l]at d;cases d
   obtain rfl:i=k:=by omega
   have I:wpOp P ops Q i (wpList P ops Q c) b w:=by
    unfold wpOp;rw[s];exact h
   refine wpOp_mono (λa' w' g=>?_) I;refine Ue f c (i+1) _ a' w' (by omega) (by simpa using hs) (λj u=>?_) (λj u F=>?_) z g
   ·rw [Dt]
    split
    ·rfl
    ·rename_i J
     exact ht j (by
      rcases JR j i with l | l
      ·exact l
      ·exact absurd ⟨by omega,by omega⟩ J)
   ·rw [Dt];rw[AO (by omega)];exact hf j (by omega) F
def Bz (P:Program) (R:Value->World->Prop):Result Next->Prop
 | .ok (.value u) w'=>R u w'
 | .ok .skip w'=>R undef w'
 | .ok (.enter f args) w'=>Calls P f args w' (λe a=>∃ v,e = .returned v/\R v a)
 | _=>False
def Ea(P:Program)(ops:Array Oper)(PP:Nat->Value->World->Prop)(own:Nat->Value->Option Nat)(i:Nat)(o:Oper)(A:Act)(w:World):Prop :=
 if Region.wanted o (yielded ops A.tmps)then Bz P (λv w'=>Below w.heap.size w w'/\PP i v w'/\∀ b,own i v=some b->w.heap.size<=b) ((execOp A.eval o).run P w)else PP i undef w
attribute [local go_sem] Ea Bz
def Ya{o:Oper}{A:Act}{w:World}{R:Value->World->Prop}(h:Bz P R ((execOp A.eval o).run P w)):o.wp P A w (λa' w'=>∃ v,a'=A.put o.dst v/\R v w') Q:=by
 unfold Oper.wp;generalize (execOp A.eval o).run P w=r at *
 cases r with
 | ok n w' =>
   cases n <;> simp only[Bz]at h <;> simp only[Oper.upon]
   case value u=>exact⟨u,rfl,h⟩
   case skip=>exact⟨undef,rfl,h⟩
   case enter f args=>exact h.mono λe c ⟨v,a,b⟩=>by subst a;exact⟨v,rfl,b⟩
 | halt x w'=>simp only[Bz]at h
def LP1{ops:Array Oper}{PP:Nat->Value->World->Prop}{own:Nat->Value->Option Nat}{i:Nat}{o:Oper}{A:Act}{w:World}(a:o.guard=none)(h:Bz P (λv w'=>Below w.heap.size w w'/\PP i v w'/\∀ b,own i v=some b->w.heap.size<=b) ((execOp A.eval o).run P w)):Ea P ops PP own i o A w:=by
 unfold Ea;rw[AC (by simp[Region.wanted,a])];exact h
def AQ0{R R':Value->World->Prop}(h:∀ v w,R v w->R' v w){r:Result Next}(a:Bz P R r):Bz P R' r:=by
 cases r with
 | ok n w' =>
   cases n <;> simp only[Bz]at a ⊢
   case value u=>exact h _ _ a
   case skip=>exact h _ _ a
   case enter f args=>exact a.mono λe d ⟨v,b,c⟩=>⟨v,b,h _ _ c⟩
 | halt x w'=>simp only[Bz]at a
def NV:Nat->Value->Option Nat:=λ_ _=>none
def Ae{ops:Array Oper}{PP:Nat->Value->World->Prop}{i:Nat}{o:Oper}{A:Act}{w:World}(c:o.guard=none)(h:Bz P (λv w'=>Below w.heap.size w w'/\PP i v w') ((execOp A.eval o).run P w)):Ea P ops PP NV i o A w :=
 LP1 c (AQ0 (λ_ _ a=>⟨a.1,a.2,λb d=>by cases d⟩) h)
def GR1 {l1 l2:List Oper} {a:Act} {C:World->Prop} {PP:Nat->Value->World->Prop} {own:Nat->Value->Option Nat} (al:∀ j u w,PP j u w->∀ b,own j u=some b->b<w.heap.size) (ay:∀ j,own j undef=none) (hd:Jk l1=true) (L:MK md l1.length (l1++l2)=true)
 (hC:∀ w w',C w->Below w.heap.size w w'->C w') (a2:∀ j u w w',Below w.heap.size w w'->PP j u w->PP j u w')
 (az:∀ (d:List Value) (w:World),d.length=l1.length->C w->∀ i o,l1[i]? = some o->(∀ j,(o.after.toList.any λe=>Region.binds md e && e.on == j)=true->PP j (d.getD j undef) w) ->
   Ea P (l1++l2).toArray PP own i o (Bq l1 d a) w)
 (am:∀(d:List Value) (w:World),d.length=l1.length->C w->(∀ j,j<l1.length->PP j (d.getD j undef) w)->(∀ i j b,i<l1.length->j<l1.length->i≠j->own i (d.getD i undef)=some b->own j (d.getD j undef)≠some b)->wpList P (l1++l2).toArray Q l2 (Bq l1 d a) w) :
 ∀ (z:Nat) (c:Array Bool) (d:List Value) (w:World),c.size=l1.length+l2.length->c.toList.count false=z->d.length=l1.length->C w ->
   (∀ j,j<l1.length->c.getD j true=true->PP j (d.getD j undef) w)->(∀ j,l1.length<=j->j<l1.length+l2.length->c.getD j true=false) ->
   (∀ q o,(l1++l2)[q]? = some o->c.getD q true=true->∀ e∈o.after,Region.binds md e=true->c.getD e.on false=true) ->
   (∀ i j b,i<l1.length->j<l1.length->i≠j->c.getD i true=true->c.getD j true=true->own i (d.getD i undef)=some b->own j (d.getD j undef)≠some b) ->
   wpAny P md (l1++l2).toArray Q z c (Bq l1 d a) w:=by
 intro z
 induction z with
 | zero =>
   intro c d w g hc B O E R ad X
   have r:∀ j,j<c.size->c.getD j true=true:=λj f=>by
    have hn:false∉c.toList:=λhm=>by have:=List.count_pos_iff.2 hm;omega
    rw[getD_lt f]
    cases F:c[j]with
    | true=>rfl
    | false=>exact absurd (by rw[<- F];simp) hn
   have D:l2=[]:=by
    cases l2 with
    | nil=>rfl
    | cons x l =>
      have:=R l1.length (AY _) (by simp);rw[r _ (by rw[g];simp)]at this
      cases this
   subst D;have s:=am d w B O (λj f=>E j f (r j (by rw[g];simp;omega))) (λi j b M f t=>X i j b M f t (r i (by rw[g];simp;omega)) (r j (by rw[g];simp;omega)))
   have:=Ue (P:=P) (Q:=Q) (md:=md) (ops:=(l1++[]).toArray) (m:=l1.length) (by simpa using L) [] l1.length c (Bq l1 d a) w (AY _) (by simpa using g)
    (λj f=>by have:=r j (by rw[g];simp;omega);rw[getD_lt (by rw[g];simp;omega)]at this ⊢;exact this)
    (λj f S=>by simp at S;omega) (by simp) s
   exact this
 | succ z ih =>
   intro c d w g hc B O E R ad X;by_cases r:∀ j,j<l1.length->c.getD j true=true
   ·have s:=am d w B O (λj f=>E j f (r j f)) (λi j b M f t=>X i j b M f t (r i M) (r j f))
    have a0:l2.length=z+1:=by
     rw[<- hc]
     have e:c.toList=List.replicate l1.length true++List.replicate l2.length false:=by
      apply List.ext_getElem
      ·simp[g]
      ·intro j G D
       have f:j<c.size:=by simpa using G
       rw[Aa6]
       split
       ·rename_i I;have:=r j (by simpa using I);rw[getD_lt f]at this;simpa using this
       ·rename_i a3;have:=R j (by simpa using a3) (by rw[<- g];exact f);rw[getD_lt f]at this;simpa using this
     rw[e,JD,YH,YH];simp
    have:=Ue (P:=P) (Q:=Q) (md:=md) (ops:=(l1++l2).toArray) (m:=l1.length) (by simpa using L) l2 l1.length c (Bq l1 d a) w (AY _) (by simpa using g)
     (λj f=>by have:=r j f;rw[getD_lt (by rw[g];omega)]at this ⊢;exact this)
     (λj f S=>R j f (by simpa using S)) (by simp) s
    rw[a0]at this;exact this
   ·have a4:∃ j,j<l1.length/\c.getD j true=false:=by
     refine FC λt=>r λj f=>?_
     cases F:c.getD j true with
     | true=>rfl
     | false=>exact absurd ⟨j,f,F⟩ t
    have a1:∃ j,j<l1.length/\c.getD j true=false/\∀ q,q<j->c.getD q true=true:=by
     obtain⟨j,f,hf⟩:=a4
     induction j using Nat.strongRecOn with
     | _ j a5 =>
       by_cases h:∀ q,q<j->c.getD q true=true
       ·exact⟨j,f,hf,h⟩
       ·have:∃ q,q<j/\c.getD q true=false:=by
         refine FC λt=>h λq H=>?_
         cases F:c.getD q true with
         | true=>rfl
         | false=>exact absurd ⟨q,H,F⟩ t
        obtain⟨q,H,a6⟩:=this;exact a5 q H (by omega) a6
    obtain⟨k,hk,Y,aw⟩:=a1
    have ak:(l1++l2).toArray[k]? = some l1[k]:=by simp[G9 hk,hk]
    have ao:k∈Region.ready md (l1++l2).toArray c:=MB.2 ⟨Y,l1[k],ak,λe s p=>by
     have I:=Hg L (i:=k) (o:=l1[k]) (by simpa using ak) s p;have:=aw e.on (by omega);rw[getD_lt (by rw[g];omega)]at this ⊢
     exact this⟩
    refine⟨(λh0=>by rw[h0]at ao;cases ao),λi M=>?_⟩;obtain⟨ap,oi,J,ac⟩:=MB.1 M
    have ae:i<l1.length:=by
     rcases JR i l1.length with h | h
     ·exact h
     ·exfalso;have T:i<(l1++l2).length:=(C9.1 (show(l1++l2)[i]? = some oi by simpa using J)).1
      have key:∀ q,q<(l1++l2).length->waits md (l1++l2) q k=true->(c.getD q true=true\/q=i)->False:=by
       intro q
       induction q using Nat.strongRecOn with
       | _ q a7 =>
         intro H hw a8
         have A:(l1++l2)[q]? = some (l1++l2)[q]:=by simp
         obtain⟨e,s,p,a9⟩:=Kq A hw;have I:=Hg L A s p
         have U:c.getD e.on false=true:=by
          rcases a8 with G | G
          ·exact ad q _ A G e s p
          ·subst G
           have:(l1++l2)[q]=oi:=by
            have h3:(l1++l2)[q]? = some oi:=by simpa using J
            rw[A]at h3;exact CV h3
           exact ac e (by rw[<- this];exact s) p
         have ba:e.on<c.size:=by rw[g,<- A8];omega
         rcases a9 with D |⟨_,D⟩
         ·rw [D] at U;rw[getD_lt (by rw[g];omega)]at U Y
          rw[U]at Y;cases Y
         ·refine a7 e.on I (by omega) D (.inl ?_);rw[getD_lt ba]at U ⊢;exact U
      exact key i T (Zm L T h (by omega)) (.inr rfl)
    have an:l1[i]? = some oi:=by simpa[G9 ae]using J
    have N:=az d w B O i oi an (λj f=>by
     obtain⟨q,H,n⟩:=VQ.1 f;simp only[QA,OG]at n;have I:=Hg L (i:=i) (o:=oi) (by simpa using J) (by simpa using H) n.1;have:=ac _ (by simpa using H) n.1;rw[n.2]at this I;refine E j (by omega) ?_;rw[getD_lt (by rw[g];omega)]at this ⊢
     exact this)
    have av:(c.setIfInBounds i true).toList.count false=z:=by
     have T:i<c.toList.length:=by simp[g];omega
     have F:c.toList[i]=false:=by
      rw[getD_lt (by simpa using T)]at ap;simpa using ap
     rw[YO,List.count_set T,F,hc];simp
    have next:∀ v w',Below w.heap.size w w'->PP i v w'->(∀ b,own i v=some b->w.heap.size<=b)->wpAny P md (l1++l2).toArray Q z (c.setIfInBounds i true) ((Bq l1 d a).put oi.dst v) w':=λv w' p hp Z=>by
     rw[Zt v l1 d i oi a hd B an];refine ih _ _ w' (by simpa using g) av (by simpa using B) (hC w w' O p) (λj f af=>?_) (λj f S=>?_) (λq o A ag e s aq=>?_) (λx y b hx hy t aa V W K=>?_)
     ·rw [Dt] at af;by_cases ab:i=j
      ·subst ab
       have:(d.set i v).getD i undef=v:=by simp[List.getD,B,ae]
       rw[this];exact hp
      ·rw [AO (by omega)] at af
       have:(d.set i v).getD j undef=d.getD j undef:=by simp[List.getD,VN ab]
       rw[this];exact a2 j _ w w' p (E j f af)
     ·rw [Dt,AO (by omega)];exact R j f S
     ·have ax:c.getD e.on false=true:=by
       rw[Dt]at ag;by_cases ar:i=q
       ·subst ar
        have h3:(l1++l2)[i]? = some oi:=by simpa using J
        rw[h3]at A
        cases A
        exact ac e s aq
       ·rw [AO (λn=>ar n.1)] at ag;exact ad q o A ag e s aq
      rw[Dt]
      split
      ·rfl
      ·exact ax
     ·rw [Dt] at aa V
      have au:(d.set i v).getD i undef=v:=by simp[List.getD,B,ae]
      have ah:∀ j,i≠j->(d.set i v).getD j undef=d.getD j undef:=λj ab=>by simp[List.getD,VN ab]
      by_cases ai:i=x
      ·subst ai;rw[au]at W;rw[ah y t]at K;rw[AO (λn=>t n.1)]at V;have G:=Z b W;have D:=al y _ w (E y hy V) b K;omega
      ·rw [ah x ai] at W;rw[AO (λn=>ai n.1)]at aa;by_cases aj:i=y
       ·subst aj;rw[au]at K;have G:=Z b K;have D:=al x _ w (E x hx aa) b W;omega
       ·rw [ah y aj] at K;rw[AO (λn=>aj n.1)]at V;exact X x y b hx hy t aa V W K
    unfold wpOp;simp only[J];unfold Ea at N;by_cases hw:Region.wanted oi (yielded (l1++l2).toArray (Bq l1 d a).tmps)=true
    ·rw [AC hw] at N ⊢;refine .inl (Oper.wp_mono (λa' w' n=>?_) (Ya N))
     obtain⟨v,rfl,p,hp,Z⟩:=n;exact next v w' p hp Z
    ·rw [AO hw] at N ⊢
     exact next undef w (AU _ _) N (λb p=>by rw[ay]at p;cases p)
def Zf (P:Program) (ops:Array Oper) (PP:Nat->Value->World->Prop) (own:Nat->Value->Option Nat) (A:Act) (a:List Value) (w:World):Nat->List Oper->Prop
 | _,[]=>True
 | i,o :: l=>((∀ j,(o.after.toList.any λe=>Region.binds .any e && e.on == j)=true->PP j (a.getD j undef) w)->Ea P ops PP own i o A w)/\Zf P ops PP own A a w (i+1) l
def Zf.at {P:Program} {ops:Array Oper} {PP:Nat->Value->World->Prop} {own:Nat->Value->Option Nat} {A:Act} {a:List Value} {w:World}:∀ {k:Nat} {l:List Oper},Zf P ops PP own A a w k l->∀ i o,l[i]? = some o ->
 (∀ j,(o.after.toList.any λe=>Region.binds .any e && e.on == j)=true->PP j (a.getD j undef) w)->Ea P ops PP own (k+i) o A w
 | _,[],_,i,o,h,_=>by simp at h
 | k,x :: l,hg,i,o,hi,hd=>by
   cases i with
   | zero =>
     simp only[nH,XW]at hi;subst hi;exact hg.1 hd
   | succ i =>
     have:=Zf.at hg.2 i o (by simpa using hi) hd;rw[show k+(i+1)=k+1+i by omega];exact this
def Jc (PP:Nat->Value->World->Prop) (w:World):Nat->List Value->Prop
 | _,[]=>True
 | i,u :: us=>PP i u w/\Jc PP w (i+1) us
def Jc.of {PP:Nat->Value->World->Prop} {w:World}:∀ {k:Nat} {a:List Value},(∀ j,j<a.length->PP (k+j) (a.getD j undef) w)->Jc PP w k a
 | _,[],_=>trivial
 | k,u :: a,h=>⟨h 0 (by simp),Jc.of λj b=>by
   have:=h (j+1) (by simpa using b);rw[show k+1+j=k+(j+1)by omega]
   exact this⟩
def MF0 {D:Nat} {a:Act} {w:World} {l:List Oper} (m:Nat) (C:World->Prop) (PP:Nat->Value->World->Prop) (own:Nat->Value->Option Nat) (E:P.follows .mixedOrders=true) (F:Jk (l.take m)=true) (G:MK .any (l.take m).length l=true)
 (H:∀ w w',C w->Below w.heap.size w w'->C w') (A:∀ j u w w',Below w.heap.size w w'->PP j u w->PP j u w') (I:C { w with drawn:=w.drawn+1 }) (v:∀ j u w,PP j u w->∀ b,own j u=some b->b<w.heap.size) (x:∀ j,own j undef=none)
 (y:∀(c:List Value) (w:World),c.length=(l.take m).length->C w->Zf P l.toArray PP own (Bq (l.take m) c a) c w 0 (l.take m))
 (z:∀(c:List Value) (w:World),c.length=(l.take m).length->C w->Jc PP w 0 c->(∀ i j b,i<c.length->j<c.length->i≠j->own i (c.getD i undef)=some b->own j (c.getD j undef)≠some b)->wpList P l.toArray Q (l.drop m) (Bq (l.take m) c a) w) :
 (Code.region D l.toArray true).wp P Q a w:=by
 have e:l.take m++l.drop m=l:=DX m l;obtain⟨c,B,J⟩:=Xo (l.take m) a;refine wp_region_any E ?_
 have:=GR1 (P:=P) (Q:=Q) (md:=.any) (l1:=l.take m) (l2:=l.drop m) (a:=a) (C:=C) (PP:=PP) (own:=own) v x F (by rw [e];exact G) H A (by rw [e];exact λc w f g i o h k=>by have:=(y c w f g).at i o h k;rwa [FM] at this)
  (by rw[e];exact λc w f g h k=>z c w f g (Jc.of λj d=>by rw[FM];exact h j (by rw[<- f];exact d)) (λi j b n d=>k i j b (by rw[<- f];exact n) (by rw[<- f];exact d))) l.length (Array.replicate l.length false) c
  { w with drawn:=w.drawn+1 } (by rw[Array.size_replicate,<- A8,e]) (by simp) B I (λj d p=>by
    have:j<l.length:=by rw[CU]at d;omega
    rw[getD_lt (by simpa using this)]at p
    simp at p) (λj _ d=>by
    have:j<l.length:=by rw[<- A8,e]at d;exact d
    rw[getD_lt (by simpa using this)]
    simp) (λq o r s=>by
    have:q<l.length:=by rw[e]at r;exact(C9.1 r).1
    rw[getD_lt (by simpa using this)]at s
    simp at s) (λi _ _ n _ _ t=>by
    have:i<l.length:=by rw[CU]at n;omega
    rw[getD_lt (by simpa using this)]at t
    simp at t)
 rw[J,e]at this;simpa using this
def Gt {g:Nat} {a:Act} {w:World} {l:List Oper} (m:Nat) (C:World->Prop) (PP:Nat->Value->World->Prop) (h:P.follows .mixedOrders=true) (i:Jk (l.take m)=true) (k:MK .any (l.take m).length l=true)
 (n:∀ w w',C w->Below w.heap.size w w'->C w') (f:∀ j u w w',Below w.heap.size w w'->PP j u w->PP j u w') (o:C { w with drawn:=w.drawn+1 })
 (d:∀(c:List Value) (w:World),c.length=(l.take m).length->C w->Zf P l.toArray PP NV (Bq (l.take m) c a) c w 0 (l.take m))
 (e:∀(c:List Value) (w:World),c.length=(l.take m).length->C w->Jc PP w 0 c->wpList P l.toArray Q (l.drop m) (Bq (l.take m) c a) w) :
 (Code.region g l.toArray true).wp P Q a w :=
 MF0 m C PP NV h i k n f o (λ_ _ _ _ b p=>by cases p) (λ_=>rfl) d (λc w q r s _=>e c w q r s)
end
end Go.Proofs.YtjihboddejaelaaGreat
