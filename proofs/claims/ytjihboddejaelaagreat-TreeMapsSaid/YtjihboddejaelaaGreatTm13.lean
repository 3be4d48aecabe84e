/-
  Open of the reference.
-/
import Derived.Test.YtjihboddejaelaaGreatTm1
import Derived.Test.YtjihboddejaelaaGreatTm12
import Derived.Test.YtjihboddejaelaaGreatTm10
import Derived.Test.YtjihboddejaelaaGreatTm11
import Derived.Test.YtjihboddejaelaaGreatTm4
import Derived.Test.YtjihboddejaelaaGreatTm7
set_option linter.unusedVariables false
set_option linter.unusedSimpArgs false
set_option linter.defProp false
set_option maxRecDepth 100000
set_option maxHeartbeats 100000000
namespace Go.Proofs.YtjihboddejaelaaGreat
open Go.RowKit Go.BigFrame
attribute [local go_sem] Ea Bz Bq Act.put
end Go.Proofs.YtjihboddejaelaaGreat
namespace Go.Proofs.YtjihboddejaelaaGreat
open Go.RowKit Go.BigFrame
end Go.Proofs.YtjihboddejaelaaGreat
namespace Go.Proofs.YtjihboddejaelaaGreat
open Go.RowKit
def RV0{L:Lg}(h:L.D.calm)(g:L.fs.length<=60000){n p:Nat}(i:n<=65536)(r:1<=p/\p<=65536){t:ByteArray}(j:t.size=1024)(k:L.slot<2):L.Ez n t p=0/\(L.Bi n t p).D.calm:=by
 obtain⟨l,d⟩:=kM g i j;have f:L.Dp n t=0:=l.trans h.Dw
 have b:(L.append n t).D.calm:=by rw[d];exact h.change _
 have q:(L.append n t).slot<2:=by rw[d];exact k
 have m:L.Ez n t p=if L.Dp n t=0 then(if(L.append n t).D.stops then 2 else({ L.append n t with D:=(L.append n t).D.sync 1 }:Lg).Eb (L.append n t).fs.length p)else L.Dp n t:=(AC (by omega)).trans (by rw[IR]);have o:L.Bi n t p=if L.Dp n t=0 then(if(L.append n t).D.stops then{ L.append n t with D:=(L.append n t).D.sync 1 }else({ L.append n t with D:=(L.append n t).D.sync 1 }:Lg).tell (L.append n t).fs.length p)else L.append n t:=(AC (by omega)).trans (by rw[IR]);rw[m,o,AC f,AC f,AO b.go,AO b.go];have c:=b.sync 1;generalize L.append n t=A at *;have a:(({ A with D:=A.D.sync 1 }:Lg).Cf A.fs.length p).calm:=c.write _ _ _
 refine⟨(AO (show ¬({ A with D:=A.D.sync 1 }:Lg).D.stops from c.go)).trans a.Dw, ?_⟩;have e:({ A with D:=A.D.sync 1 }:Lg).tell A.fs.length p={ ({ A with D:=A.D.sync 1 }:Lg)with D:=(({ A with D:=A.D.sync 1 }:Lg).Cf A.fs.length p).sync 1,slot:=1-A.slot,number:=A.number % 3+1,kept:=A.fs.length,pages:=p }:=(AO (show ¬({ A with D:=A.D.sync 1 }:Lg).D.stops from c.go)).trans (AO a.go);rw[e];exact a.sync 1
def Vo:Bk:=⟨1,λ_=>Yi⟩
structure FW (D D':Dk) (c:Nat):Prop where
 ok:D.ok->D'.ok
 waits:D'.waits.length<=D.waits.length+c
 count:D'.count<=D.count+c
section
variable {D D1 D2:Dk} {c d:Nat}
def FW.refl(D:Dk)(c:Nat):FW D D c:=⟨id,SY ..,SY ..⟩
def FW.mono(h:FW D D1 c)(a:c<=d):FW D D1 d:=⟨h.ok,by have:=h.waits;omega,by have:=h.count;omega⟩
def FW.trans(h:FW D D1 c)(k:FW D1 D2 d):FW D D2 (c+d):=⟨λx=>k.ok (h.ok x),by have:=h.waits;have:=k.waits;omega,by have:=h.count;have:=k.count;omega⟩
def Yb(D:Dk)(f a:Int)(s:ByteArray):FW D (D.write f a s) 1:=⟨λh=>Dk.XL h f a s,(uS D f a s).1,(uS D f a s).2⟩
def rV(D:Dk)(f a:Int):FW D (D.Fp f a) 1:=⟨λh=>Dk.Y5 h f a,(EE1 D f a).1,(EE1 D f a).2⟩
def Xc(D:Dk)(f:Int):FW D (D.sync f) 1:=⟨λh=>Dk.Qs h f,by have:=(rH D f).1;omega,(rH D f).2⟩
end
def Va(L:Lg)(n:Int)(t:ByteArray):FW L.D (L.append n t).D 1:=by
 unfold Lg.append
 split
 ·exact Yb _ _ _ _
 ·exact .refl _ _
def wC(L:Lg)(f p:Nat):FW L.D (L.tell f p).D 2:=by
 have a:FW L.D (L.Cf f p) 1:=Yb _ _ _ _;unfold Lg.tell
 split
 ·exact a.mono (by omega)
 ·have b:FW L.D ((L.Cf f p).sync 1) 2:=a.trans (Xc _ _)
  split
  ·exact b
  ·exact b
def DQ0(L:Lg)(n:Int)(t:ByteArray)(p:Int):FW L.D (L.Bi n t p).D 4:=by
 have a:=Va L n t;have b:FW L.D ((L.append n t).D.sync 1) 2:=a.trans (Xc _ _);unfold Lg.Bi
 split
 ·split
  ·split
   ·exact b.mono (by omega)
   ·exact b.trans (wC ({ L.append n t with D:=(L.append n t).D.sync 1 }:Lg) _ _)
  ·exact a.mono (by omega)
 ·exact .refl _ _
def wZ(L:Lg)(D:Dk)(m:Nat):FW D (L.Vg D m) 1:=by
 unfold Lg.Vg
 split
 ·exact Yb _ _ _ _
 ·exact .refl _ _
def uI (L:Lg):∀ (k m:Nat) (D:Dk),FW D (L.puts k m D).1 k
 | 0,m,D=>.refl _ _
 | k+1,m,D=>by
   rw[Lg.puts]
   split
   ·have:=(wZ L D m).trans (uI L k (m+1) _);exact this.mono (by omega)
   ·exact(wZ L D m).mono (by omega)
def SU0(L:Lg)(D:Dk):FW D (L.Gs D).1.D 4:=by
 have a:=rV D 0 (1024*L.pages:Nat);have b:FW D ((D.Fp 0 (1024*L.pages:Nat)).sync 0) 2:=a.trans (Xc _ _);have c:FW D (({ L with D:=(D.Fp 0 (1024*L.pages:Nat)).sync 0 }:Lg).tell 0 L.pages).D 4:=b.trans (wC ({ L with D:=(D.Fp 0 (1024*L.pages:Nat)).sync 0 }:Lg) _ _);unfold Lg.Gs
 split
 ·exact a.mono (by omega)
 ·split
  ·exact b.mono (by omega)
  ·dsimp only
   split
   ·exact c
   ·exact c
def JF0(L:Lg):FW L.D L.Ah.1.D (L.pages+4):=by
 have a:=uI L L.pages 0 L.D;unfold Lg.Ah
 split
 ·exact .refl _ _
 ·split
  ·exact .refl _ _
  ·split
   ·exact a.mono (by omega)
   ·exact a.trans (SU0 L _)
structure Go (P P':Pl) (c:Nat):Prop where
 near:FW P.L.D P'.L.D c
 most:P'.most=P.most
 pins:∀ k,(∀ f∈P.ring,f.pins<=k)->∀ f∈P'.ring,f.pins<=k
section
variable {P P1 P2:Pl} {c d:Nat}
def Go.refl(P:Pl)(c:Nat):Go P P c:=⟨.refl _ _,rfl,λ_ h=>h⟩
def Go.mono(h:Go P P1 c)(a:c<=d):Go P P1 d:=⟨h.near.mono a,h.most,h.pins⟩
def Go.trans(h:Go P P1 c)(k:Go P1 P2 d):Go P P2 (c+d):=⟨h.near.trans k.near,k.most.trans h.most,λm a=>k.pins m (h.pins m a)⟩
def kS{F:List Pf}{n k:Nat}(h:∀ f∈F,f.pins<=k):∀ f∈Ns n F,f.pins<=k:=λf a=>h f ((Lp _ _).subset a)
def JU1(P:Pl)(f:Pf):Go P (P.Io f).1 1:=by
 unfold Pl.Io
 split
 ·split
  ·exact⟨Va _ _ _,rfl,λk h=>kS h⟩
  ·exact⟨Va _ _ _,rfl,λk h=>h⟩
 ·exact⟨.refl _ _,rfl,λk h=>kS h⟩
def fG(P:Pl):Go P P.room.1 1:=by
 unfold Pl.room
 split
 ·exact .refl _ _
 ·split
  ·exact .refl _ _
  ·exact JU1 _ _
def LN1(P:Pl)(x:Nat):Go P (P.fetch x).1 0:=by
 unfold Pl.fetch
 split
 ·refine ⟨.refl _ _,rfl,λk h f a=>?_⟩
  rcases BO.1 a with a | a
  ·exact h f a
  ·rw[BH.1 a];exact BR _
 ·exact .refl _ _
def Ym(P:Pl)(x:Int):Go P (P.get x).1 1:=by
 unfold Pl.get
 split
 ·split
  ·rename_i f b;refine⟨.refl _ _,rfl,λk h g a=>?_⟩
   rcases BO.1 a with a | a
   ·exact kS h g a
   ·rw[BH.1 a];exact h f (YA b)
  ·split
   ·exact(fG P).trans (LN1 _ _)
   ·exact fG P
 ·exact .refl _ _
def ZF0(P:Pl){f:Pf}(d:f.pins=P.Pv.pins):Go P (P.setLast f) 0:=by
 refine⟨.refl _ _,rfl,λk h g e=>?_⟩;have c:g∈P.ring.dropLast++[f]:=e
 rcases BO.1 c with a | a
 ·exact h g (List.dropLast_subset _ a)
 ·rw [BH.1 a,d];unfold Pl.Pv
  cases b:P.ring.getLast? with
  | none =>
    have:P.ring=[]:=List.getLast?_eq_none_iff.1 b;rw[this];exact BR _
  | some l =>
    rw[List.getLastD_eq_getLast?,b];exact h l (List.mem_of_getLast? b)
def kJ(P:Pl)(x:Int)(s:ByteArray):Go P (P.put x s).1 1:=by
 unfold Pl.put
 split
 ·have h:=(Ym P x).trans (ZF0 (P.get x).1 (f:={ (P.get x).1.Pv with s:=s,dirty:=true }) rfl);exact⟨h.near,h.most,h.pins⟩
 ·exact Ym P x
def ZO0(P:Pl)(n:Nat):Go P (P.Dc n).1 2:=by
 unfold Pl.Dc
 split
 ·split
  ·exact(Ym P 0).mono (by omega)
  ·split
   ·have h:=(Ym P 0).trans (kJ (P.get 0).1 0 (Dj 4 n (‹Pg›).2.2));exact⟨h.near,h.most,h.pins⟩
   ·exact(Ym P 0).trans (kJ _ _ _)
 ·exact(Ym P 0).mono (by omega)
def MU1(P:Pl):Go P P.grow.1 1:=by
 have h:=fG P;unfold Pl.grow
 split
 ·refine ⟨h.near,h.most,λk b f a=>?_⟩
  rcases BO.1 a with a | a
  ·exact h.pins k b f a
  ·rw[BH.1 a];exact BR _
 ·exact h
def xY{F:List Pf}{n k:Nat}(h:∀ f∈F,f.pins<=k):∀ f∈Jl n F,f.pins<=k:=λf a=>by
 obtain⟨g,b,rfl⟩:=DI.1 a;have:=h g b
 split
 ·exact this
 ·exact this
def iT:∀ (b:List Nat) (P:Pl),Go P (Pl.flush b P).1 (4*b.length)
 | [],P=>.refl _ _
 | [n],P=>by
   rw[Pl.flush]
   have h:Go P { P with L:=P.L.Bi n (Vb n P.ring) P.pages } (4*1):=⟨DQ0 _ _ _ _,rfl,λk h=>h⟩
   split
   ·exact⟨h.near,rfl,λk a=>xY a⟩
   ·exact h
 | n :: m :: r,P=>by
   rw[Pl.flush];have h:FW P.L.D (P.L.append n (Vb n P.ring)).D 4:=(Va _ _ _).mono (by omega)
   split
   ·have c:Go P { P with L:=P.L.append n (Vb n P.ring),ring:=Jl n P.ring } 4:=⟨h,rfl,λk a=>xY a⟩
    exact(c.trans (iT (m :: r) _)).mono (by simp only[DF];omega)
   ·exact⟨h.mono (by simp only[DF];omega),rfl,λk a=>a⟩
def BV1{P:Pl}(ok:P.ok):(Gj P.ring).length<=64:=by
 have a:(Gj P.ring).length=(P.ring.filter (·.dirty)).length:=by unfold Gj;rw[dA,BZ]
 have b:=dB (·.dirty) P.ring;have c:=ok.full;have d:=ok.most;omega
def YK0(ok:P.ok):Go P P.Bv.1 260:=by
 have a:=BV1 ok;unfold Pl.Bv
 split
 ·split
  ·exact((Ym P 0).trans (iT [0] _)).mono (by simp)
  ·exact(Ym P 0).mono (by omega)
 ·exact(iT _ P).mono (by omega)
def OL1(R:Pl×Int):Go R.1 (Pl.told R).1 (R.1.L.pages+4):=by
 unfold Pl.told
 split
 ·split
  ·exact⟨JF0 _,rfl,λk h=>h⟩
  ·exact⟨.refl _ _,rfl,λk h=>h⟩
 ·exact .refl _ _
def xA(P:Pl):Go P P.rolled 0:=⟨.refl _ _,rfl,λk h f a=>h f (OO.1 a).1⟩
def NQ1(P:Pl):Go P P.root.1 1:=by
 have h:=Ym P 0;unfold Pl.root
 split
 ·split
  ·exact⟨h.near,h.most,h.pins⟩
  ·exact⟨h.near,h.most,h.pins⟩
 ·exact h
def TP0(P:Pl):Go P P.Gz.1 1:=by
 unfold Pl.Gz
 split
 ·exact .refl _ _
 ·exact((xA P).trans (NQ1 _)).mono (by omega)
end
structure Cal (P:Pl) (B N:Bk) (c k:Nat):Prop where
 pin:DU 60000 P B N
 root:Root N P.free
 wt:wt P<=c
 calm:P.L.D.calm
 most:8<=P.most
 pins:∀ f∈P.ring,f.pins<=0
 waits:P.L.D.waits.length<=k
 count:P.L.D.count<=k
 kept:P.L.kept<=1000
 still:P.turned=[]->Go.Proofs.YtjihboddejaelaaGreat.wt P<=1000
def fD(x:Nat)(T:List Nat):Vq x T≠[]:=by
 unfold Vq
 split
 ·next h=>exact λe=>by rw[e]at h;cases h
 ·exact List.cons_ne_nil _ _
def zM(L:Lg)(n:Int)(t:ByteArray):(L.append n t).kept=L.kept:=by
 unfold Lg.append
 split
 ·rfl
 ·rfl
def BB1(P:Pl)(f:Pf):(P.Io f).1.L.kept=P.L.kept:=by
 unfold Pl.Io
 split
 ·split
  ·exact zM _ _ _
  ·exact zM _ _ _
 ·rfl
def jB(P:Pl):P.room.1.L.kept=P.L.kept:=by
 unfold Pl.room
 split
 ·rfl
 ·split
  ·rfl
  ·exact BB1 _ _
def ZT0(P:Pl)(x:Nat):(P.fetch x).1.L.kept=P.L.kept:=by
 unfold Pl.fetch
 split
 ·rfl
 ·rfl
def XG(P:Pl)(x:Int):(P.get x).1.L.kept=P.L.kept:=by
 unfold Pl.get
 split
 ·split
  ·rfl
  ·split
   ·exact(ZT0 _ _).trans (jB P)
   ·exact jB P
 ·rfl
section
variable {P P':Pl} {B N N':Bk} {c k c' k':Nat}
def Cal.more(h:Cal P B N c k)(a:c<=c')(b:k<=k'):Cal P B N c' k':=⟨h.pin,h.root,BN h.wt a,h.calm,h.most,h.pins,BN h.waits b,by have:=h.count;omega,h.kept,h.still⟩
def Cal.next(h:Cal P B N c k){d m:Nat}(g:Go P P' d)(f:DU 60000 P' B N')(i:Root N' P'.free)(j:Go.Proofs.YtjihboddejaelaaGreat.wt P'<=m)(a:P'.L.D.calm)(b:P'.L.kept=P.L.kept)(e:P'.turned=[]->Go.Proofs.YtjihboddejaelaaGreat.wt P'<=1000):Cal P' B N' m (k+d) :=
 ⟨f,i,j,a,by rw[g.most];exact h.most,g.pins 0 h.pins,by have:=g.near.waits;have:=h.waits;omega,by have:=g.near.count;have:=h.count;omega,by rw[b];exact h.kept,e⟩
def VB0{L:Lg}(h:L.D.calm)(a:L.fs.length<=60000){n:Nat}(b:n<=65536){t:ByteArray}(c:t.size=1024):L.Dp n t=0/\(L.append n t).D.calm:=by
 obtain⟨d,e⟩:=kM a b c;exact⟨d.trans h.Dw,by rw[e];exact h.change _⟩
def ZW0(h:DU 60000 P B N)(e:wt P<=60000)(c:P.L.D.calm){f:Pf}(d:f∈P.ring):(P.Io f).2=0/\(P.Io f).1.L.D.calm:=by
 unfold Pl.Io
 cases g:f.dirty
 ·exact⟨rfl,c⟩
 ·obtain ⟨a,b⟩:=VB0 c (by unfold wt at e;omega) (h.up f d).2 (h.ok.size f d);rw[AC rfl,AC a];exact⟨rfl,b⟩
def wQ(h:DU 60000 P B N)(e:wt P<=60000)(c:P.L.D.calm)(j:8<=P.most)(g:∀ f∈P.ring,f.pins<=0):P.room.2=0/\P.room.1.L.D.calm:=by
 unfold Pl.room;by_cases a:P.ring.length<P.most
 ·rw[AC a];exact⟨rfl,c⟩
 ·rw [AO a]
  cases d:idle P.ring with
  | none =>
    exfalso
    cases b:P.ring with
    | nil=>rw[b]at a;simp at a;omega
    | cons f r =>
      have i:=dH.1 d f (by rw[b];exact AZ ..);have k:=g f (by rw[b];exact AZ ..);exact i (by simp;omega)
  | some f=>exact ZW0 h e c (YA d)
def qE(h:DU 60000 P B N)(b:wt P<=60000)(c:P.L.D.calm)(i:8<=P.most)(j:∀ f∈P.ring,f.pins<=0){x:Nat}(t:x<N.q):(P.get x).2=0/\(P.get x).1.L.D.calm:=by
 have s:=h.pages;unfold Pl.get;rw[AC ⟨by omega,by omega⟩]
 cases k:NQ x P.ring with
 | some f=>exact⟨rfl,c⟩
 | none =>
   obtain⟨l,d⟩:=wQ h b c i j;obtain⟨a,u,v⟩:=eP h b;obtain⟨w,y,z,A,m⟩:=Lj (P:=P);have p:=a.ok.few;have r:=a.pages;have o:=a.lies x (by omega) λf e C=>absurd (show(f.n:Int)=x by omega) (aX k f (m f e));have g:=((dY a.log.safe (n:=x) (by omega) o).1 d.1).1;show(if P.room.2=0 then P.room.1.fetch (x:Int).toNat else P.room).2=0/\(if P.room.2=0 then P.room.1.fetch (x:Int).toNat else P.room).1.L.D.calm;rw[AC l,IR];unfold Pl.fetch;rw[AC g];exact⟨rfl,d⟩
def Cal.get(h:Cal P B N c k)(i:c<=60000){x:Nat}(j:x<N.q):(P.get x).2=0/\Cal (P.get x).1 B N c (k+1)/\P.text x=N.K x:=by
 have d:Go.Proofs.YtjihboddejaelaaGreat.wt P<=60000:=BN h.wt i;obtain⟨a,b⟩:=qE h.pin d h.calm h.most h.pins j;obtain⟨l,m,f⟩:=JX1 h.pin h.root d x;refine⟨a,h.next (Ym P x) l m (BN f h.wt) b (XG P x) (λe=>BN f (h.still (by rw[<-(Zu (P:=P) x).2.2.2];exact e))), ?_⟩;have g:=(vV h.pin d a).2.2;rw[IR]at g;exact(AC a).trans g
def Cal.put(h:Cal P B N c k)(d:c<=60000){x:Nat}(i:x<N.q){s:ByteArray}(j:s.size=1024)(l:x≠0):(P.put x s).2=0/\Cal (P.put x s).1 B (N.put x s) (c+1) (k+1):=by
 have m:Go.Proofs.YtjihboddejaelaaGreat.wt P<=60000:=BN h.wt d;obtain⟨a,b,_⟩:=h.get d i;obtain⟨n,r,t,o,u⟩:=YW h.pin m x j
 have e:(P.put x s).2=0:=by unfold Pl.put;rw[AC a]
 obtain⟨_,_,q⟩:=n e;rw[IR]at q;refine⟨e,h.next (kJ P x s) q (by rw[o];exact h.root.put l s) (by have:=h.wt;omega) ?_ ?_ ?_⟩
 all_goals have f:(P.put x s).1.L=(P.get x).1.L:=by unfold Pl.put;rw[AC a];rfl
 ·rw[f];exact b.calm
 ·rw[f];exact XG P x
 ·intro g
  have p:(P.put x s).1.turned=Vq (x:Int).toNat (P.get x).1.turned:=by unfold Pl.put;rw[AC a]
  rw[p]at g;exact absurd g (fD _ _)
def Cal.write(h:Cal P B N c k)(a:c<=60000){x:Nat}(b:x<N.q){s:ByteArray}(d:s.size=1024)(f:x≠0):(P.write x s).2=0/\Cal (P.write x s).1 B (N.put x s) (c+1) (k+1):=by
 have e:P.write x s=P.put x s:=AO (by omega);rw[e];exact h.put a b d f
def Cal.Dc(h:Cal P B N c k)(w:c+1<=60000){n:Nat}(g:n<=2147483647):(P.Dc n).2=0/\Cal (P.Dc n).1 B (N.put 0 (Dj 4 n [])) (c+1) (k+2)/\(P.Dc n).1.free=n:=by
 have y:Go.Proofs.YtjihboddejaelaaGreat.wt P<=60000:=BN h.wt (by omega);obtain⟨a,b,p⟩:=h.get (by omega) (x:=0) h.root.pos;have a':(P.get 0).2=0:=a
 have j:(P.get 0).1.Pv.s=N.K 0:=by have i:P.text 0=N.K 0:=p;unfold Pl.text at i;rw[AC a']at i;exact i
 rw[h.root.text]at j
 have m:Ie (P.get 0).1.Pv.s=some (4,P.free,[]):=by rw[j];exact jX h.root.le
 obtain⟨r,z,t,A,C⟩:=YW b.pin (BN b.wt (by omega)) 0 (s:=Dj 4 n []) (JG1 g);obtain⟨f,u,_⟩:=b.get (by omega) (x:=0) h.root.pos
 have l:((P.get 0).1.put 0 (Dj 4 n [])).2=0:=by unfold Pl.put;rw[AC (show((P.get 0).1.get 0).2=0 from f)]
 have e:P.Dc n=({ ((P.get 0).1.put 0 (Dj 4 n [])).1 with free:=n },0):=by
  unfold Pl.Dc;rw[AC a',m];exact AC l
 obtain⟨_,_,q⟩:=r l
 have o:(P.Dc n).1.L.D.calm:=by
  have d:(P.Dc n).1.L=((P.get 0).1.get 0).1.L:=by rw[e];show((P.get 0).1.put 0 _).1.L=_;unfold Pl.put;rw[AC (show((P.get 0).1.get 0).2=0 from f)];rfl
  rw[d];exact u.calm
 refine⟨by rw[e],h.next (ZO0 P n) ?_ ?_ ?_ o ?_ ?_,by rw[e]⟩
 ·rw[e];exact q.Z8 g
 ·rw[e];exact KY1 h.root.pos g
 ·rw[e];exact BN t (mV b.wt)
 ·have d:(P.Dc n).1.L=((P.get 0).1.get 0).1.L:=by rw [e];show ((P.get 0).1.put 0 _).1.L=_;unfold Pl.put;rw [AC (show ((P.get 0).1.get 0).2=0 from f)];rfl
  rw[d];exact(XG _ _).trans (XG _ _)
 ·intro d
  have v:(P.Dc n).1.turned=Vq (0:Int).toNat ((P.get 0).1.get 0).1.turned:=by rw[e];show((P.get 0).1.put 0 _).1.turned=_;unfold Pl.put;rw[AC (show((P.get 0).1.get 0).2=0 from f)]
  rw[v]at d;exact absurd d (fD _ _)
def Bk.grow(N:Bk):Bk:=⟨N.q+1,λm=>if m=N.q then Hu else N.K m⟩
def Cal.grow(h:Cal P B N c k)(d:c<=60000)(I:N.q<=60000):P.grow.2=0/\Cal P.grow.1 B N.grow (c+1) (k+1)/\P.grow.1.free=P.free:=by
 have t:Go.Proofs.YtjihboddejaelaaGreat.wt P<=60000:=BN h.wt d;have H:=h.pin.pages;have i:=NE1 h.pin.ok (by omega);obtain⟨b,C,J⟩:=eP h.pin t;obtain⟨M,O,l,Q,S⟩:=Lj (P:=P);obtain⟨E,v⟩:=wQ h.pin t h.calm h.most h.pins;have F:=h.root.pos;have e:P.grow=({ P.room.1 with pages:=P.room.1.pages+1,ring:=P.room.1.ring++[⟨P.room.1.pages,Hu,0,true⟩],turned:=Vq P.room.1.pages P.room.1.turned },0):=AC E;have g:=MU1 P;have w:=jB P;rw[e]at i g ⊢;generalize P.room.1=R at *;have x:=b.pages;rw[x]at i g ⊢;refine⟨rfl,h.next g ⟨i,b.log,rfl,λg a=>?_,λn m d=>?_,λn m y=>?_,VH b.le⟩ ⟨VH F, ?_, ?_⟩ ?_ v w (λG=>absurd G (fD _ _)),l⟩
 ·show g.s=(if g.n=N.q then Hu else N.K g.n)/\(g.dirty=true->g.n∈Vq N.q R.turned)
  rcases BO.1 a with a | a
  ·have o:=b.ring g a;have p:=b.up g a;rw[AO (by omega)];refine⟨o.1,λu=>?_⟩
   unfold Vq;split
   ·exact o.2 u
   ·exact BF _ (o.2 u)
  ·rw [BH.1 a];refine⟨(AC rfl).symm,λ_=>?_⟩;show N.q∈Vq N.q R.turned
   unfold Vq;split
   ·assumption
   ·exact AZ ..
 ·have z:n<N.q+1:=m;show Jo R.L.D.l0 R.L.fs n (if n=N.q then Hu else N.K n)
  have j:n≠N.q:=λe=>by
   have:(true:Bool)=false:=d ⟨N.q,Hu,0,true⟩ (BC _ (BH.2 rfl)) e.symm
   cases this
  rw[AO j];exact b.lies n (by omega) λg a=>d g (BL _ a)
 ·have z:n<N.q+1:=m;have r:n∉Vq N.q R.turned:=y;show n<B.q/\(if n=N.q then Hu else N.K n)=B.K n
  have j:n≠N.q:=λe=>r (by
   rw[e];unfold Vq;split
   ·assumption
   ·exact AZ ..)
  rw[AO j];refine b.same n (by omega) λp=>r ?_
  unfold Vq;split
  ·exact p
  ·exact BF _ p
 ·show (if 0=N.q then Hu else N.K 0)=Dj 4 R.free [];rw[AO (by omega),l];exact h.root.text
 ·show R.free<=_;rw[l];exact h.root.le
 ·show R.L.fs.length+((R.ring++[_]).filter (λf:Pf=>f.dirty)).length<=_;have A:=h.wt;refine BN (BN ?_ (mV C)) (mV A);unfold Go.Proofs.YtjihboddejaelaaGreat.wt;rw[OT,A8];simp[OQ];omega
def Cal.JB1(h:Cal P B N c k)(i:c<=60000)(j:N.q<=60000)(f:P.free=0):P.alloc.2=0/\P.Aj=N.q/\Cal P.alloc.1 B N.grow (c+1) (k+4)/\P.alloc.1.free=0:=by
 have g:=h.pin.pages;have e:P.alloc=P.grow:=(AC f).trans (AO (by omega));obtain⟨a,b,d⟩:=h.grow i j;rw[e];exact⟨a,(AC f).trans g,b.more (AY _) (by omega),d.trans f⟩
def Cal.IP1(h:Cal P B N c k)(g:c+1<=60000)(i:¬ P.free=0)(o:P.free<N.q){d:Nat}(p:d<=2147483647)(v:N.K P.free=Dj 3 d []):P.alloc.2=0/\P.Aj=P.free/\Cal P.alloc.1 B ((N.put 0 (Dj 4 d [])).put P.free Hu) (c+2) (k+4)/\P.alloc.1.free=d:=by
 have e:P.alloc=P.reuse:=AO i;obtain⟨a,b,t⟩:=h.get (by omega) o
 have m:(P.get P.free).1.Pv.s=N.K P.free:=by unfold Pl.text at t;rw[AC a]at t;exact t
 rw[v]at m
 have f:1<=3/\3<=5/\d<=2147483647/\Ce []<=1012:=⟨by omega,by omega,p,by decide⟩
 have r:Ie (P.get P.free).1.Pv.s=some (3,d,[]):=by rw[m];exact Nz.2 ⟨f.1,f.2.1,f.2.2.1,f.2.2.2,(Rn f).symm⟩
 obtain⟨w,j,y⟩:=b.Dc g (n:=d) p;obtain⟨z,A⟩:=j.put g (x:=P.free) o (s:=Hu) (kC (l:=0) (by omega)) i
 have C:P.reuse=((P.get P.free).1.Dc d).1.put P.free Hu:=by
  unfold Pl.reuse;rw[AC a,r];exact AC w
 have u:(((P.get P.free).1.Dc d).1.put P.free Hu).1.free=d:=by
  obtain⟨E,F,G,D,H⟩:=YW j.pin (BN j.wt g) P.free (s:=Hu) (kC (l:=0) (by omega));rw[D,y]
 rw[e,C];exact⟨z,AO i,A.more (AY _) (by omega),u⟩
def Cal.free(h:Cal P B N c k)(o:c+2<=60000){x:Nat}(d:x<N.q)(f:x≠0):(P.O6 x).2=0/\Cal (P.O6 x).1 B ((N.put x (Dj 3 P.free [])).put 0 (Dj 4 x [])) (c+2) (k+3)/\(P.O6 x).1.free=x:=by
 obtain⟨a,b⟩:=h.put (by omega) d (s:=Dj 3 P.free []) (kC h.root.le) f;have l:=h.pin.ok.few;have m:=h.pin.pages;obtain⟨g,i,j⟩:=b.Dc (by omega) (n:=x) (by omega)
 have e:P.O6 x=(P.put x (Dj 3 P.free [])).1.Dc x:=by
  unfold Pl.O6;rw[AO (show ¬((x:Int)=0)by omega),AC a,IR]
 rw[e];exact⟨g,i.more (by omega) (by omega),j⟩
end
abbrev Ky:=List UInt8
def ltK(a b:Ky):Prop:=Op.bytesLess a b=true
def EU(a b:Ky):Prop:=Op.bytesLess b a=false
def Po{a b:UInt8}{x y:Ky}:ltK (a :: x) (b :: y)↔a<b\/(a=b/\ltK x y):=by
 unfold ltK;simp[Op.bytesLess]
theorem eU{b:UInt8}{y:Ky}:ltK [] (b :: y):=rfl
def Jt{x:Ky}:¬ ltK x []:=by unfold ltK;cases x <;> simp[Op.bytesLess]
def Md{a b:Ky}:EU a b↔¬ ltK b a:=by unfold EU ltK;simp
def Ia:∀ (a:Ky),¬ ltK a a
 | []=>Jt
 | a :: x=>λh=>by
   rcases Po.1 h with h | h
   ·exact absurd h (by simp)
   ·exact Ia x h.2
def Fg:∀ {a b c:Ky},ltK a b->ltK b c->ltK a c
 | _,_,[],_,h=>absurd h Jt
 | _,[],_ :: _,h,_=>absurd h Jt
 | [],_ :: _,_ :: _,_,_=>eU
 | a :: x,b :: y,c :: z,h1,h2=>by
   refine Po.2 ?_
   rcases Po.1 h1 with e |⟨rfl,e⟩
   ·rcases Po.1 h2 with d | ⟨rfl,d⟩
    ·exact .inl (UInt8.lt_trans e d)
    ·exact .inl e
   ·rcases Po.1 h2 with d | ⟨rfl,d⟩
    ·exact .inl d
    ·exact .inr ⟨rfl,Fg e d⟩
def eF:∀ (a b:Ky),ltK a b\/a=b\/ltK b a
 | [],[]=>.inr (.inl rfl)
 | [],_ :: _=>.inl eU
 | _ :: _,[]=>.inr (.inr eU)
 | a :: x,b :: y=>by
   rcases Nat.lt_trichotomy a.toNat b.toNat with h | h | h
   ·exact .inl (Po.2 (.inl (UInt8.lt_iff_toNat_lt.2 h)))
   ·obtain rfl:a=b:=lX.1 h
    rcases eF x y with h | h | h
    ·exact .inl (Po.2 (.inr ⟨rfl,h⟩))
    ·exact .inr (.inl (by rw[h]))
    ·exact .inr (.inr (Po.2 (.inr ⟨rfl,h⟩)))
   ·exact .inr (.inr (Po.2 (.inl (UInt8.lt_iff_toNat_lt.2 h))))
def Px(a:Ky):EU a a:=Md.2 (Ia a)
def Lr{a b:Ky}(h:ltK a b):EU a b:=Md.2 λk=>Ia a (Fg h k)
def ZE(a:Ky):EU [] a:=Md.2 Jt
def Uk{a b:Ky}(h:EU a b):ltK a b\/a=b:=by
 rcases eF a b with k | k | k
 ·exact .inl k
 ·exact .inr k
 ·exact absurd k (Md.1 h)
def zY{a b c:Ky}(h:EU a b)(k:ltK b c):ltK a c:=by
 rcases Uk h with h | rfl
 ·exact Fg h k
 ·exact k
def Ho{a b c:Ky}(h:ltK a b)(k:EU b c):ltK a c:=by
 rcases Uk k with k | rfl
 ·exact Fg h k
 ·exact h
def FZ1{a b c:Ky}(h:EU a b)(k:EU b c):EU a c:=by
 rcases Uk h with h | rfl
 ·exact Lr (Ho h k)
 ·exact k
def FB1{a b:Ky}(h:¬ ltK a b):EU b a:=Md.2 h
def FO1{a b:Ky}(h:¬ EU a b):ltK b a:=by
 rcases eF a b with k | k | k
 ·exact absurd (Lr k) h
 ·exact absurd (k ▸ Px a) h
 ·exact k
instance (a b:Ky):Decidable (ltK a b):=inferInstanceAs (Decidable (_=true))
structure It where
 k:Ky
 r:Ky
deriving DecidableEq
structure Nd where
 n:Nat
 lo:Ky
 its:List It
def AQ(l:Ky):ByteArray:=⟨l.toArray⟩
def Bf(l:Ky):(AQ l).size=l.length:=by simp[AQ,ByteArray.size]
def Cb(l:Ky):(AQ l).data.toList=l:=by simp[AQ]
def Jy(s:ByteArray):AQ s.data.toList=s:=by cases s;simp[AQ]
def Ba(n:Nat):Ky:=[UInt8.ofNat (n / 16777216),UInt8.ofNat (n / 65536),UInt8.ofNat (n / 256),UInt8.ofNat n]
theorem fourL_len(n:Nat):(Ba n).length=4:=rfl
def Gi(r:Ky):Nat:=16777216*(r.getD 0 0).toNat+65536*(r.getD 1 0).toNat+256*(r.getD 2 0).toNat+(r.getD 3 0).toNat
def Ha{n:Nat}(h:n<4294967296):Gi (Ba n)=n:=by
 unfold Gi Ba;simp only[List.getD_cons_zero,List.getD_cons_succ,MR];omega
def cellL(i:It):Ky:=UInt8.ofNat i.k.length :: (i.k++i.r)
def Af(i:It):ByteArray:=AQ (cellL i)
def HJ1(i:It):(cellL i).length=1+i.k.length+i.r.length:=by simp[cellL];omega
def Nr(i:It):(Af i).size=1+i.k.length+i.r.length:=by rw[Af,Bf,HJ1]
def Dx(x:Nd):It:=⟨x.lo,Ba x.n⟩
def CO(i:It):Nat:=5+i.k.length+i.r.length
def iO(i:It):4+(Af i).size=CO i:=by rw[Nr];unfold CO;omega
def Ak(l:List It):Nat:=(l.map CO).sum
theorem Hf:Ak []=0:=rfl
def Dn(i:It)(l:List It):Ak (i :: l)=CO i+Ak l:=by simp[Ak]
def Ff(l m:List It):Ak (l++m)=Ak l+Ak m:=by simp[Ak]
def Ib(l:List It):Ce (l.map Af)=Ak l:=by
 unfold Ce Ak;rw[YB]
 congr 1
 exact YC λi _=>iO i
def cutAt (h:Nat):List It->Nat
 | []=>0
 | i :: l=>if h=0 then 0 else 1+cutAt (h-CO i) l
def qV (h:Nat):∀ l,cutAt h l<=l.length
 | []=>AY _
 | i :: l=>by
   unfold cutAt
   split
   ·exact BR _
   ·have:=qV (h-CO i) l;simp only[DF];omega
def yN:∀ (l:List It) (h:Nat),h<=Ak l->h<=Ak (l.take (cutAt h l))/\∀ m,(∀ i∈l,CO i<=m)->Ak (l.take (cutAt h l))<=h+m-1\/h=0
 | [],h,hu=>by
   have:h=0:=by simpa[Ak]using hu
   subst this;exact⟨BR _,λm _=>.inr rfl⟩
 | i :: l,h,hu=>by
   unfold cutAt;by_cases c:h=0
   ·rw[AC c];exact⟨by omega,λm _=>.inr c⟩
   ·rw [AO c,Nat.add_comm 1,DY,Dn];rw[Dn]at hu;obtain⟨a,b⟩:=yN l (h-CO i) (by omega);refine⟨by omega,λm d=>.inl ?_⟩;have f:=d i AZ
    have g:0<CO i:=by unfold CO;omega
    rcases b m (λj e=>d j (BF _ e))with b | b
    ·by_cases k:h<=CO i
     ·have:cutAt (h-CO i) l=0:=by
       rw[show h-CO i=0 from by omega];cases l <;> simp[cutAt]
      rw[this];simp[Ak];omega
     ·omega
    ·have:cutAt (h-CO i) l=0:=by
      rw[b];cases l <;> simp[cutAt]
     rw[this];simp[Ak];omega
def DT0:∀ (l:List It) (h:Nat),0<h->h<=Ak l->0<cutAt h l/\Ak (l.take (cutAt h l-1))<h
 | [],h,h0,hu=>by rw[Hf]at hu;omega
 | i :: l,h,h0,hu=>by
   unfold cutAt;rw[AO (by omega)];refine⟨by omega, ?_⟩;rw[Nat.add_sub_cancel_left];rw[Dn]at hu;by_cases e:h<=CO i
   ·have:cutAt (h-CO i) l=0:=by
     rw[show h-CO i=0 from by omega];cases l <;> simp[cutAt]
    rw[this];simpa[Ak]using h0
   ·obtain ⟨a,b⟩:=DT0 l (h-CO i) (by omega) (by omega);obtain⟨c,d⟩:∃ c,cutAt (h-CO i) l=c+1:=⟨_,(Nat.succ_pred_eq_of_pos a).symm⟩;rw[d]at b ⊢;rw[DY,Dn];have:c+1-1=c:=rfl;rw[this]at b;omega
def SL(x y:Nd):Prop:=ltK x.lo y.lo/\∀ e∈x.its,ltK e.k y.lo
def tY(x:Nd):Prop:=x.its.Pairwise (λa b=>ltK a.k b.k)/\∀ e∈x.its,EU x.lo e.k
def Yy(L:List Nd):Prop:=L.Pairwise SL/\∀ x∈L,tY x
def Qa{A B:List Nd}:Yy (A++B)↔Yy A/\Yy B/\∀ a∈A,∀ b∈B,SL a b:=by
 unfold Yy;rw[XZ];constructor
 ·rintro ⟨⟨e,f,g⟩,d⟩;exact⟨⟨e,λx c=>d x (BL _ c)⟩,⟨f,λx c=>d x (BC _ c)⟩,g⟩
 ·rintro ⟨⟨e,f⟩,⟨g,d⟩,h⟩;exact⟨⟨e,g,h⟩,λx c=>(BO.1 c).elim (f x) (d x)⟩
def Fq{x:Nd}{B:List Nd}:Yy (x :: B)↔tY x/\Yy B/\∀ b∈B,SL x b:=by
 unfold Yy;rw[JK];constructor
 ·rintro ⟨⟨c,f⟩,a⟩;exact⟨a x AZ,⟨f,λy d=>a y (BF _ d)⟩,c⟩
 ·rintro ⟨c,⟨g,a⟩,h⟩;exact⟨⟨h,g⟩,λy d=>(BI.1 d).elim (λe=>e ▸ c) (a y)⟩
def xO{A B:List Nd}{l r:Nd}(h:Yy (A++l :: r :: B))(n:Nat):Yy (A++⟨n,l.lo,l.its++r.its⟩ :: B):=by
 obtain⟨m,o,j⟩:=Qa.1 h;obtain⟨k,p,g⟩:=Fq.1 o;obtain⟨i,q,s⟩:=Fq.1 p;have lr:=g r AZ;refine Qa.2 ⟨m,Fq.2 ⟨⟨XZ.2 ⟨k.1,i.1,λa f b d=>Ho (lr.2 a f) (i.2 b d)⟩,λe c=>?_⟩,q,λb d=>⟨(g b (BF _ d)).1,λe c=>?_⟩⟩,λa f b d=>?_⟩
 ·rcases BO.1 c with c | c
  ·exact k.2 e c
  ·exact Lr (Ho lr.1 (i.2 e c))
 ·rcases BO.1 c with c | c
  ·exact(g b (BF _ d)).2 e c
  ·exact(s b d).2 e c
 ·rcases BI.1 d with rfl | d
  ·exact j a f l AZ
  ·exact j a f b (BF _ (BF _ d))
def yI{A B:List Nd}{x:Nd}{X Y:List It}{y:It}(h:Yy (A++x :: B))(e:x.its=X++y :: Y)(s:X≠[])(n m:Nat):Yy (A++⟨n,x.lo,X⟩ :: ⟨m,y.k,y :: Y⟩ :: B):=by
 obtain⟨t,u,l⟩:=Qa.1 h;obtain⟨v,w,f⟩:=Fq.1 u;obtain⟨o,i⟩:=v;rw[e]at o i;obtain⟨z,p,q⟩:=XZ.1 o;obtain⟨C,F⟩:=JK.1 p
 have g:ltK x.lo y.k:=by
  cases X with
  | nil=>exact absurd rfl s
  | cons a X=>exact zY (i a (by simp)) (q a (by simp) y (by simp))
 have D:∀ b∈B,SL ⟨n,x.lo,X⟩ b:=λb c=>⟨(f b c).1,λe d=>(f b c).2 e (by rw[‹x.its=_›];exact BL _ d)⟩
 have E:∀ b∈B,SL ⟨m,y.k,y :: Y⟩ b:=λb c=>⟨(f b c).2 y (by rw[e];simp),λe d=>(f b c).2 e (by rw[‹x.its=_›];exact BC _ d)⟩
 refine Qa.2 ⟨t,Fq.2 ⟨⟨z,λe d=>i e (BL _ d)⟩,Fq.2 ⟨⟨p,λe d=>?_⟩,w,E⟩,λb c=>?_⟩,λa r b c=>?_⟩
 ·rcases BI.1 d with rfl | d
  ·exact Px _
  ·exact Lr (C e d)
 ·rcases BI.1 c with rfl | c
  ·exact⟨g,λe d=>q e d y AZ⟩
  ·exact D b c
 ·have j:=l a r x AZ
  rcases BI.1 c with rfl | c
  ·exact j
  ·rcases BI.1 c with rfl | c
   ·exact⟨Fg j.1 g,λe d=>Fg (j.2 e d) g⟩
   ·exact l a r b (BF _ c)
def JZ1{A B:List Nd}{x:Nd}{X:List It}(h:Yy (A++x :: B))(g:X.Pairwise (λa b=>ltK a.k b.k))(i:∀ e∈X,EU x.lo e.k)(j:∀ e∈X,∀ b∈B,ltK e.k b.lo)(n:Nat):Yy (A++⟨n,x.lo,X⟩ :: B):=by
 obtain⟨l,m,d⟩:=Qa.1 h;obtain⟨r,o,p⟩:=Fq.1 m;refine Qa.2 ⟨l,Fq.2 ⟨⟨g,i⟩,o,λb c=>⟨(p b c).1,λe q=>j e q b c⟩⟩,λa f b c=>?_⟩
 rcases BI.1 c with rfl | c
 ·exact d a f x AZ
 ·exact d a f b (BF _ c)
def NH1{L D:List Nd}(h:Yy D)(e:L.flatMap (·.its)=D.map Dx)(v:∀ x∈L,x.its.head?.map (·.k)=some x.lo):Yy L:=by
 have o:(L.flatMap (·.its)).Pairwise (λa b=>ltK a.k b.k):=by
  rw[e,PX];exact h.1.imp λh=>h.1
 rw[List.flatMap_def,List.pairwise_flatten,PX]at o;obtain⟨p,w⟩:=o
 have g:∀ x∈L,∃ i r,x.its=i :: r/\i.k=x.lo:=λx d=>by
  have:=v x d
  cases q:x.its with
  | nil=>rw[q]at this;simp at this
  | cons i r=>rw[q]at this;exact⟨i,r,rfl,by simpa using this⟩
 refine⟨?_,λx d=>⟨p _ (F6 d),λl c=>?_⟩⟩
 ·refine List.Pairwise.imp_of_mem (λ{a b} y z f=>?_) w;obtain⟨i,r,m,n⟩:=g a y;obtain⟨j,s,A,t⟩:=g b z;rw[A]at f;refine⟨?_,λl c=>?_⟩
  ·rw[<- n,<- t];exact f i (by rw[m];exact AZ) j AZ
  ·rw[<- t];exact f l c j AZ
 ·obtain ⟨i,r,m,n⟩:=g x d;have u:=p _ (F6 d);rw[m]at u c;rw[<- n]
  rcases BI.1 c with rfl | c
  ·exact Px _
  ·exact Lr ((JK.1 u).1 l c)
def hdN:List Nd->Nat->Nat
 | [],m=>m
 | y :: _,_=>y.n
def eG(A B:List Nd)(m:Nat):hdN (A++B) m=hdN A (hdN B m):=by cases A <;> rfl
def KN (G:Nat->Pg) (f:Nat):List Nd->Nat->Prop
 | [],_=>True
 | x :: l,m=>(x.n≠f->G x.n=(1,hdN l m,x.its.map Af))/\KN G f l m
def Jh {G:Nat->Pg} {f:Nat}:∀ {A B:List Nd} {m:Nat},KN G f (A++B) m↔KN G f A (hdN B m)/\KN G f B m
 | [],_,_=>⟨λh=>⟨trivial,h⟩,λh=>h.2⟩
 | x :: A,B,m=>by
   rw[F7,KN,KN,Jh,eG];exact and_assoc.symm
def Oa {G G':Nat->Pg} {f f':Nat}:∀ {A:List Nd} {m:Nat},KN G f A m->(∀ x∈A,x.n≠f'->x.n≠f/\G' x.n=G x.n)->KN G' f' A m
 | [],_,_,_=>trivial
 | x :: A,m,h,hc=>⟨λc=>by obtain⟨a,b⟩:=hc x AZ c;rw[b];exact h.1 a,Oa h.2 λy d=>hc y (BF _ d)⟩
def body(b:Bool)(l:List It):List It:=if b then l else l.drop 1
def FX(x:Nd):Pg:=(2,Gi (x.its.headD ⟨[],[]⟩).r,(x.its.drop 1).map Af)
structure La (b:Bool) (root:Nat) (x:Nd):Prop where
 le:Ak (body b x.its)<=1012
 ge:x.n≠root->180<=Ak (body b x.its)
 two:b=false->2<=x.its.length
structure RQ (i:It):Prop where
 pos:1<=i.k.length
 le:i.k.length<=200
 sz:CO i<=244
structure Jw (G:Nat->Pg) (f root:Nat) (L:List Nd):Prop where
 ord:Yy L
 keys:∀ x∈L,∀ i∈x.its,RQ i
 RZ0:∀ x∈L,x.lo.length<=200
 pages:KN G f L 0
 fit:∀ x∈L,x.n≠f->La true root x
structure WY (G:Nat->Pg) (f root:Nat) (L D:List Nd):Prop where
 its:L.flatMap (·.its)=D.map Dx
 head:∀ x∈L,x.its.head?.map (·.k)=some x.lo
 pages:∀ x∈L,x.n≠f->G x.n=FX x
 fit:∀ x∈L,x.n≠f->La false root x
def BP (G:Nat->Pg) (f root:Nat):List Nd->List (List Nd)->Prop
 | L,[]=>Jw G f root L
 | L,D :: r=>WY G f root L D/\BP G f root D r
def BP.ord {G:Nat->Pg} {f root:Nat}:∀ {Ds:List (List Nd)} {L:List Nd},BP G f root L Ds->Yy L
 | [],_,h=>Jw.ord h
 | _ :: _,_,h=>NH1 (BP.ord h.2) h.1.its h.1.head
def BP.RZ0 {G:Nat->Pg} {f root:Nat}:∀ {Ds:List (List Nd)} {L:List Nd},BP G f root L Ds->∀ x∈L,x.lo.length<=200
 | [],_,h=>Jw.RZ0 h
 | D :: _,L,h=>λx c=>by
   have a:=h.1.head x c
   cases b:x.its with
   | nil=>rw[b]at a;simp at a
   | cons i r =>
     rw[b]at a;have d:i∈L.flatMap (·.its):=MG.2 ⟨x,c,by rw[b];exact AZ⟩;rw[h.1.its]at d;obtain⟨y,e,g⟩:=DI.1 d
     have j:i.k=x.lo:=by simpa using a
     rw[<- j,<- g];exact BP.RZ0 h.2 y e
def Gl:List Nd->List (List Nd)->List Nat
 | L,[]=>L.map (·.n)
 | L,D :: r=>L.map (·.n)++Gl D r
def Cm {L:List Nd} {x:Nd} (a:x∈L):∀ (Ds:List (List Nd)),x.n∈Gl L Ds
 | []=>F6 a
 | _ :: _=>BL _ (F6 a)
def Jw.congr{G G':Nat->Pg}{f f' root:Nat}{L:List Nd}(h:Jw G f root L)(a:∀ x∈L,x.n≠f'->x.n≠f/\G' x.n=G x.n):Jw G' f' root L :=
 ⟨h.ord,h.keys,h.RZ0,Oa h.pages a,λx b c=>h.fit x b (a x b c).1⟩
def WY.congr{G G':Nat->Pg}{f f' root:Nat}{L D:List Nd}(h:WY G f root L D)(e:∀ x∈L,x.n≠f'->x.n≠f/\G' x.n=G x.n):WY G' f' root L D :=
 ⟨h.its,h.head,λx c d=>by obtain⟨a,b⟩:=e x c d;rw[b];exact h.pages x c a,λx c d=>h.fit x c (e x c d).1⟩
def BP.congr {G G':Nat->Pg} {f f' root:Nat}:∀ {Ds:List (List Nd)} {L:List Nd},BP G f root L Ds->(∀ p∈Gl L Ds,p≠f'->p≠f/\G' p=G p)->BP G' f' root L Ds
 | [],_,h,hc=>Jw.congr h λx a=>hc _ (Cm a [])
 | D :: r,L,h,hc=>⟨h.1.congr λx a=>hc _ (BL _ (F6 a)),BP.congr h.2 λp b=>hc p (BC _ b)⟩
structure Seg (G G':Nat->Pg) (f f' root:Nat) (A M M' B:List Nd) (Ds:List (List Nd)):Prop where
 its:M'.flatMap (·.its)=M.flatMap (·.its)
 ord:Yy (A++M'++B)
 RZ0:∀ x∈M',x.lo.length<=200
 hd:A≠[]->∀ m,hdN M' m=hdN M m
 head:Ds≠[]->∀ x∈M',x.its.head?.map (·.k)=some x.lo
 leaf:Ds=[]->KN G' f' M' (hdN B 0)
 inn:Ds≠[]->∀ x∈M',x.n≠f'->G' x.n=FX x
 fit:∀ x∈M',x.n≠f'->La Ds.isEmpty root x
def BP.EM {G G':Nat->Pg} {f f' root:Nat} {A M M' B:List Nd} {Ds:List (List Nd)} (h:BP G f root (A++M++B) Ds) (s:Seg G G' f f' root A M M' B Ds)
 (t:∀ x∈A++B,x.n≠f'->x.n≠f/\G' x.n=G x.n) (F:∀ D r,Ds=D :: r->∀ p∈Gl D r,p≠f'->p≠f/\G' p=G p):BP G' f' root (A++M'++B) Ds:=by
 have j:∀ x∈A,x∈A++M++B:=λx c=>by simp[c]
 have k:∀ x∈B,x∈A++M++B:=λx c=>by simp[c]
 have l:∀ x∈A,x.n≠f'->x.n≠f/\G' x.n=G x.n:=λx c=>t x (BL _ c);have m:∀ x∈B,x.n≠f'->x.n≠f/\G' x.n=G x.n:=λx c=>t x (BC _ c)
 have g:∀{p:Nd->Prop},(∀ x∈A,p x)->(∀ x∈M',p x)->(∀ x∈B,p x)->∀ x∈A++M'++B,p x:=λe o q x c=>by
  rcases BO.1 c with c | c
  ·exact(BO.1 c).elim (e x) (o x)
  ·exact q x c
 cases Ds with
 | nil =>
   obtain⟨P,H,u,v,w⟩:=h;rw[BU]at v;obtain⟨I,J⟩:=Jh.1 v;obtain⟨Q,K⟩:=Jh.1 J;refine⟨s.ord,λx c i L=>?_,g (λx c=>u x (j x c)) s.RZ0 (λx c=>u x (k x c)), ?_,g (λx c d=>w x (j x c) (l x c d).1) s.fit (λx c d=>w x (k x c) (m x c d).1)⟩
   ·have:i∈(A++M++B).flatMap (·.its):=by
     have e:i∈(A++M'++B).flatMap (·.its):=MG.2 ⟨x,c,L⟩;rw[H5,H5,s.its]at e;rw[H5,H5];exact e
    obtain⟨y,N,E⟩:=MG.1 this;exact H y N i E
   ·rw [BU];refine Jh.2 ⟨Oa ?_ l,Jh.2 ⟨s.leaf rfl,Oa K m⟩⟩
    by_cases z:A=[]
    ·subst z;trivial
    ·rw [eG,s.hd z,<- eG];exact I
 | cons D r =>
   obtain⟨⟨e,o,q,C⟩,O⟩:=h;refine⟨⟨?_,g (λx c=>o x (j x c)) (s.head (by simp)) (λx c=>o x (k x c)),g (λx c d=>?_) (s.inn (by simp)) (λx c d=>?_),g (λx c d=>C x (j x c) (l x c d).1) s.fit (λx c d=>C x (k x c) (m x c d).1)⟩,O.congr (F D r rfl)⟩
   ·rw[<- e,H5,H5,s.its,H5,H5]
   ·obtain⟨a,b⟩:=l x c d;rw[b];exact q x (j x c) a
   ·obtain⟨a,b⟩:=m x c d;rw[b];exact q x (k x c) a
structure CY where
 A:List Nd
 y:Nd
 U:List It
 V:List It
 B:List Nd
def CY.lv(u:CY):List Nd:=u.A++u.y :: u.B
structure MO (G:Nat->Pg) (f root:Nat) (A M B:List Nd) (u:CY):Prop where
 its:u.y.its=u.U++M.map Dx++u.V
 left:u.A.flatMap (·.its)++u.U=A.map Dx
 right:u.V++u.B.flatMap (·.its)=B.map Dx
 head:∀ x∈u.lv,x.its.head?.map (·.k)=some x.lo
 pages:∀ x∈u.lv,x.n≠f->G x.n=FX x
 fit:∀ x∈u.lv,x.n≠f->La false root x
def FI (G:Nat->Pg) (f root:Nat):List Nd->Nd->List Nd->List CY->Prop
 | A,x,B,[]=>A=[]/\B=[]/\x.n=root/\x.lo=[]
 | A,x,B,u :: r=>MO G f root A [x] B u/\FI G f root u.A u.y u.B r
def Zq:List CY->List Nat
 | []=>[]
 | u :: r=>u.lv.map (·.n)++Zq r
def MO.inn{G:Nat->Pg}{f root:Nat}{A M B:List Nd}{u:CY}(h:MO G f root A M B u):WY G f root u.lv (A++M++B):=by
 refine⟨?_,h.head,h.pages,h.fit⟩;unfold CY.lv;rw[H5,IK,h.its,D9,D9,<- h.left,<- h.right];simp only[BU]
def MO.congr{G G':Nat->Pg}{f f' root:Nat}{A B:List Nd}{x d:Nd}{u:CY}(h:MO G f root A [x] B u)(i:∀ p∈u.lv.map (·.n),p≠f'->p≠f/\G' p=G p)(j:d.n=x.n)(k:d.lo=x.lo):MO G' f' root A [d] B u:=by
 have e:Dx d=Dx x:=by unfold Dx;rw[j,k]
 refine⟨by rw[h.its,DW,DW,e],h.left,h.right,h.head,λz c g=>?_,λz c g=>h.fit z c (i z.n (F6 c) g).1⟩;obtain⟨a,b⟩:=i z.n (F6 c) g;rw[b];exact h.pages z c a
def FI.congr {G G':Nat->Pg} {f f' root:Nat}:∀ {ups:List CY} {A B:List Nd} {x a:Nd},FI G f root A x B ups->(∀ p∈Zq ups,p≠f'->p≠f/\G' p=G p)->a.n=x.n->a.lo=x.lo->FI G' f' root A a B ups
 | [],_,_,_,_,h,_,h1,h2=>⟨h.1,h.2.1,h1.trans h.2.2.1,h2.trans h.2.2.2⟩
 | u :: r,_,_,_,_,h,hc,h1,h2=>⟨h.1.congr (λp b=>hc p (BL _ b)) h1 h2,FI.congr h.2 (λp b=>hc p (BC _ b)) rfl rfl⟩
def NH(G:Nat->Pg)(root:Nat)(x:Nd)(Ds:List (List Nd)):Prop:=BP G 0 root [x] Ds/\x.n=root/\x.lo=[]
def N9:List Nd->Nd->List Nd->List (List Nd)->List CY->Nd×List (List Nd)
 | _,x,_,Ds,[]=>(x,Ds)
 | A,x,B,Ds,u :: r=>N9 u.A u.y u.B ((A++x :: B) :: Ds) r
def DK1 {G:Nat->Pg} {root:Nat}:∀ {ups:List CY} {A B:List Nd} {x:Nd} {Ds:List (List Nd)},BP G 0 root (A++x :: B) Ds->FI G 0 root A x B ups->NH G root (N9 A x B Ds ups).1 (N9 A x B Ds ups).2
 | [],_,_,x,Ds,h,k=>by
   obtain⟨rfl,rfl,a,b⟩:=k;exact⟨h,a,b⟩
 | u :: r,A,B,x,Ds,h,k=>DK1 (ups:=r) ⟨by have:=k.1.inn;rw[BU]at this;exact this,h⟩ k.2
def UL {G:Nat->Pg} {f root:Nat}:∀ {ups:List CY} {A B:List Nd} {x:Nd} {Ds:List (List Nd)},FI G f root A x B ups->(Gl [(N9 A x B Ds ups).1] (N9 A x B Ds ups).2).Perm (Gl (A++x :: B) Ds++Zq ups)
 | [],_,_,x,Ds,k=>by
   obtain⟨rfl,rfl,_⟩:=k;show List.Perm (Gl [x] Ds) (Gl [x] Ds++[]);rw[GI]
 | u :: r,A,B,x,Ds,k=>by
   refine(UL (ups:=r) (A:=u.A) (B:=u.B) (x:=u.y) (Ds:=(A++x :: B) :: Ds) k.2).trans ?_;show List.Perm ((u.lv.map (·.n)++Gl (A++x :: B) Ds)++Zq r) (Gl (A++x :: B) Ds++(u.lv.map (·.n)++Zq r));rw[<- BU (Gl _ _)];exact List.Perm.append_right _ VL
def Jd:List Nd->List (List Nd)->List It
 | L,[]=>L.flatMap (·.its)
 | _,D :: r=>Jd D r
def Xt {G:Nat->Pg} {f root:Nat}:∀ {ups:List CY} {A B:List Nd} {x:Nd} {Ds:List (List Nd)},FI G f root A x B ups->Jd [(N9 A x B Ds ups).1] (N9 A x B Ds ups).2=Jd (A++x :: B) Ds
 | [],_,_,x,Ds,k=>by obtain⟨rfl,rfl,_⟩:=k;rfl
 | u :: r,A,B,x,Ds,k=>Xt (ups:=r) k.2
def BM(a:Bool)(B:List Nd)(x:Nd):Pg:=if a then(1,hdN B 0,x.its.map Af)else FX x
def Ja(G:Nat->Pg)(n:Nat)(p:Pg):Nat->Pg:=λm=>if m=n then p else G m
def Dq{G:Nat->Pg}{n:Nat}{p:Pg}:Ja G n p n=p:=AC rfl
def Be{G:Nat->Pg}{n m:Nat}{p:Pg}(h:m≠n):Ja G n p m=G m:=AO h
def Fe(L:List Nd)(Ds:List (List Nd))(ups:List CY):List Nat:=Gl L Ds++Zq ups
def Np(L:List Nd)(Ds:List (List Nd)):∃ R,Gl L Ds=L.map (·.n)++R/\∀ D r,Ds=D :: r->R=Gl D r:=by
 cases Ds with
 | nil=>exact⟨[],(GI _).symm,λ_ _ h=>by cases h⟩
 | cons D r=>exact⟨Gl D r,rfl,λ_ _ h=>by cases h;rfl⟩
def bI{A B:List Nat}{R:List Nat}{x:Nat}(h:(A++x :: B++R).Nodup):x∉A/\x∉B/\x∉R:=by
 simp only[BU,F7,CZ,FP,BO,BI]at h;obtain⟨d,⟨b,e⟩,c⟩:=h;exact⟨λa=>c x a x (.inl rfl) rfl,λa=>b (.inl a),λa=>b (.inr a)⟩
def qO {G:Nat->Pg} {root:Nat} {A B:List Nd} {x:Nd} {Ds:List (List Nd)} {ups:List CY} (h:BP G x.n root (A++x :: B) Ds) (k:FI G x.n root A x B ups) (nd:(Fe (A++x :: B) Ds ups).Nodup) (m:La Ds.isEmpty root x) :
 BP (Ja G x.n (BM Ds.isEmpty B x)) 0 root (A++x :: B) Ds/\FI (Ja G x.n (BM Ds.isEmpty B x)) 0 root A x B ups:=by
 obtain⟨R,o,q⟩:=Np (A++x :: B) Ds
 have i:((A.map (·.n))++x.n :: (B.map (·.n))++(R++Zq ups)).Nodup:=by
  have:=nd;unfold Fe at this;rw[o]at this;simpa[D9,BU]using this
 obtain⟨s,n2,g⟩:=bI i
 have j:∀ p,p∉[x.n]->p≠0->p≠x.n/\Ja G x.n (BM Ds.isEmpty B x) p=G p:=λp d _=>⟨λe=>d (by rw[e];exact BH.2 rfl),Be λe=>d (by rw[e];exact BH.2 rfl)⟩
 have c:∀{l:List Nat},x.n∉l->∀ p∈l,p≠0->p≠x.n/\Ja G x.n (BM Ds.isEmpty B x) p=G p:=λt p d u=>j p (λe=>t (by rw[<- BH.1 e];exact d)) u;constructor
 ·have:=BP.EM (G':=Ja G x.n (BM Ds.isEmpty B x)) (f':=0) (A:=A) (M:=[x]) (M':=[x]) (B:=B) (by simpa using h) ⟨rfl,by have:=h.ord;simpa using this,λz a=>h.RZ0 z (by rw [BH.1 a];simp),λ_ _=>rfl,λb z a=>?_,λb=>?_,λb z a _=>?_,λz a _=>by rw [BH.1 a];exact m⟩
   (λz a=>?_) (λD r b=>?_)
  ·simpa using this
  ·cases Ds with
   | nil=>exact absurd rfl b
   | cons D r=>exact h.1.head z (by rw[BH.1 a];simp)
  ·subst b;exact⟨λ_=>Dq,trivial⟩
  ·rw [BH.1 a,Dq];unfold BM
   cases Ds with
   | nil=>exact absurd rfl b
   | cons D r=>rfl
  ·rcases BO.1 a with a | a
   ·exact c s z.n (F6 a)
   ·exact c n2 z.n (F6 a)
  ·rw [<- q D r b];exact c λf=>g (BL _ f)
 ·exact k.congr (c λf=>g (BC _ f)) rfl rfl
def PP1 {G G':Nat->Pg} {f root:Nat} {A M M' B:List Nd} {Ds:List (List Nd)} {u:CY} {r:List CY} (h:BP G f root (A++M++B) Ds) (d:MO G f root A M B u) (k:FI G f root u.A u.y u.B r)
 (s:Seg G G' f u.y.n root A M M' B Ds) (H:M≠[]) (C:M'.head?.map (·.lo)=M.head?.map (·.lo))
 (I:∀ x∈A++B,x.n≠f/\G' x.n=G x.n) (J:∀ D t,Ds=D :: t->∀ p∈Gl D t,p≠f/\G' p=G p) (l:∀ p∈u.A.map (·.n)++u.B.map (·.n)++Zq r,p≠f/\G' p=G p) :
 BP G' u.y.n root (u.A++(⟨u.y.n,u.y.lo,u.U++M'.map Dx++u.V⟩:Nd) :: u.B) ((A++M'++B) :: Ds)/\FI G' u.y.n root u.A (⟨u.y.n,u.y.lo,u.U++M'.map Dx++u.V⟩:Nd) u.B r:=by
 have K:=h.EM s (λx c _=>I x c) (λD t L p q _=>J D t L p q);have v:∀ x∈u.A,x∈u.lv:=λx c=>BL _ c;have w:∀ x∈u.B,x∈u.lv:=λx c=>BC _ (BF _ c)
 have o:∀{p:Nd->Prop} {y:Nd},(∀ x∈u.A,p x)->p y->(∀ x∈u.B,p x)->∀ x∈u.A++y :: u.B,p x:=λg z N x c=>by
  rcases BO.1 c with c | c
  ·exact g x c
  ·exact(BI.1 c).elim (λe=>e ▸ z) (N x)
 refine⟨⟨⟨?_,o (λx c=>d.head x (v x c)) ?_ (λx c=>d.head x (w x c)),o (λx c j=>?_) (λj=>absurd rfl j) (λx c j=>?_),o (λx c j=>?_) (λj=>absurd rfl j) (λx c j=>?_)⟩,K⟩,k.congr (λp q _=>l p (BC _ q)) rfl rfl⟩
 ·rw [H5,IK,D9,D9,<- d.left,<- d.right];simp only[BU]
 ·have g:=d.head u.y (BC _ AZ);rw[d.its]at g
  cases E:u.U with
  | cons i U=>rw[E]at g;simpa using g
  | nil =>
    rw[E]at g
    cases M with
    | nil=>exact absurd rfl H
    | cons m M =>
      cases M' with
      | nil=>simp at C
      | cons F M' =>
        have e:F.lo=m.lo:=by simpa using C
        have z:(Dx m).k=u.y.lo:=by simpa using g
        show some (Dx F).k=some u.y.lo;rw[<- z];exact D8 some e
 ·obtain ⟨a,b⟩:=l x.n (BL _ (BL _ (F6 c)));rw[b];exact d.pages x (v x c) a
 ·obtain ⟨a,b⟩:=l x.n (BL _ (BC _ (F6 c)));rw[b];exact d.pages x (w x c) a
 ·exact d.fit x (v x c) (l x.n (BL _ (BL _ (F6 c)))).1
 ·exact d.fit x (w x c) (l x.n (BL _ (BC _ (F6 c)))).1
def F8(b:Bool)(l:List It):Nat:=cutAt (Ak (body b l) / 2) (body b l)
structure Halves (b:Bool) (X Y:List It):Prop where
 l1:180<=Ak (body b X)
 l2:Ak (body b X)<=1012
 r1:180<=Ak (body b Y)
 r2:Ak (body b Y)<=1012
 x2:b=false->2<=X.length
 y2:b=false->2<=Y.length
def EV1{l:List It}(h:180<=Ak l):l≠[]:=λe=>by rw[e,Hf]at h;omega
def iQ{c:List It}(q:1012<Ak c)(r:Ak c<=1404)(b:∀ i∈c,CO i<=244):∃ k,cutAt (Ak c / 2) c=k+1/\k+1<=c.length/\180<=Ak (c.take (k+1))/\Ak (c.take (k+1))<=1012/\180<=Ak (c.drop (k+1))/\Ak (c.drop (k+1))<=1012/\180<=Ak (c.take k)/\Ak (c.take k)<=1012:=by
 obtain⟨g,j⟩:=yN c (Ak c / 2) (by omega);obtain⟨l,d⟩:=DT0 c (Ak c / 2) (by omega) (by omega);have a:=qV (Ak c / 2) c
 have m:Ak (c.take (cutAt (Ak c / 2) c))<=Ak c / 2+243:=by
  rcases j 244 b with h | h
  ·exact h
  ·omega
 obtain⟨k,e⟩:∃ k,cutAt (Ak c / 2) c=k+1:=⟨_,(Nat.succ_pred_eq_of_pos l).symm⟩;rw[e]at g m d a;have f:k+1-1=k:=rfl;rw[f]at d
 have o:Ak (c.take (k+1))+Ak (c.drop (k+1))=Ak c:=by rw[<- Ff,DX]
 have n:Ak (c.take (k+1))=Ak (c.take k)+CO c[k]:=by
  rw[JS (by omega),Ff,Dn,Hf];rfl
 have p:=b c[k] (EI _);exact⟨k,e,a,by omega,by omega,by omega,by omega,by omega,by omega⟩
def Xz{b:Bool}{l:List It}(c:1012<Ak (body b l))(n:Ak (body b l)<=1404)(o:∀ i∈body b l,CO i<=244):Halves b (l.take (F8 b l)) (l.drop (F8 b l))/\0<F8 b l/\F8 b l<=(body b l).length:=by
 obtain⟨k,p,j,q,r,d,e,f,s⟩:=iQ c n o;have m:F8 b l=k+1:=p;rw[m];refine⟨?_,Nat.succ_pos _,j⟩
 cases b with
 | true=>exact⟨q,r,d,e,(λh=>by cases h),(λh=>by cases h)⟩
 | false =>
   cases l with
   | nil=>simp[body,Ak]at c
   | cons i cs =>
     have a:(cs.drop k).drop 1=cs.drop (k+1):=by rw[List.drop_drop]
     have g:180<=Ak ((cs.drop k).drop 1):=by rw[a];exact d
     refine⟨f,s,g, ?_,λ_=>?_,λ_=>?_⟩
     ·show Ak ((cs.drop k).drop 1)<=1012;rw[a];exact e
     ·have:0<(cs.take k).length:=QY.2 (EV1 f);simp only[DY,DF];omega
     ·have:0<((cs.drop k).drop 1).length:=QY.2 (EV1 g);rw[DJ]at this;simp only[IC];omega
def Halves.tX{b:Bool}{X Y:List It}(h:Halves b X Y)(n:Nat)(lo:Ky)(root:Nat):La b root ⟨n,lo,X⟩:=⟨h.l2,λ_=>h.l1,h.x2⟩
def Halves.uB{b:Bool}{X Y:List It}(h:Halves b X Y)(n:Nat)(lo:Ky)(root:Nat):La b root ⟨n,lo,Y⟩:=⟨h.r2,λ_=>h.r1,h.y2⟩
def gW{b:Bool}{l:List It}{i:It}(h:i∈body b l):i∈l:=by
 cases b
 ·exact JV h
 ·exact h
def iR{b:Bool}{X Y:List It}(h:b=false->X≠[]):body b (X++Y)=body b X++Y:=by
 cases b with
 | true=>rfl
 | false =>
   cases X with
   | nil=>exact absurd rfl (h rfl)
   | cons i X=>rfl
def KK1(b:Bool)(l:List It):Ak (body b l)<=Ak l:=by
 cases b with
 | true=>exact AY _
 | false =>
   cases l with
   | nil=>exact AY _
   | cons i l=>rw[Dn];exact Nat.le_add_left _ _
def Halves.ne{b:Bool}{X Y:List It}(h:Halves b X Y):X≠[]/\Y≠[]:=⟨λe=>by have:=h.l1;rw[e]at this;cases b <;> simp[body,Ak]at this,λe=>by have:=h.r1;rw[e]at this;cases b <;> simp[body,Ak]at this⟩
def BP.sz{G:Nat->Pg}{f root:Nat}{L:List Nd}{Ds:List (List Nd)}(h:BP G f root L Ds){x:Nd}(a:x∈L){i:It}(b:i∈x.its):CO i<=244/\i.k.length<=200/\(Ds≠[]->i.r.length=4):=by
 cases Ds with
 | nil=>exact⟨(h.keys x a i b).sz,(h.keys x a i b).le,λe=>absurd rfl e⟩
 | cons D r =>
   have c:i∈L.flatMap (·.its):=MG.2 ⟨x,a,b⟩;rw[h.1.its]at c;obtain⟨y,d,g⟩:=DI.1 c;have j:=BP.RZ0 h.2 y d;rw[<- g];refine⟨?_,j,λ_=>rfl⟩;unfold CO Dx;simp only[fourL_len];omega
def ED1{A B R:List Nat}{x y:Nat}(h:(A++x :: y :: B++R).Nodup):x≠y/\(∀ p,p∈A\/p∈B\/p∈R->p≠x/\p≠y):=by
 simp only[BU,F7,CZ,FP,BO,BI]at h;obtain⟨f,⟨b,d,g⟩,c⟩:=h;refine⟨λe=>b (.inl e),λp a=>?_⟩
 rcases a with a | a
 ·exact⟨c p a x (.inl rfl),c p a y (.inr (.inl rfl))⟩
 ·exact⟨λe=>b (by rw[<- e];exact .inr a),λe=>d (by rw[<- e];exact a)⟩
def Mc{G:Nat->Pg}{f root:Nat}{A B:List Nd}{M:List Nd}{Ds:List (List Nd)}(h:BP G f root (A++M++B) Ds)(a:Ds≠[]):∀ x∈M,x.its.head?.map (·.k)=some x.lo:=λx b=>by
 cases Ds with
 | nil=>exact absurd rfl a
 | cons D r=>exact h.1.head x (by simp[b])
def wV {G:Nat->Pg} {f root m:Nat} {A B M:List Nd} {x:Nd} {X Y:List It} {y:It} {Ds:List (List Nd)} (h:BP G f root (A++M++B) Ds) (g:M.flatMap (·.its)=X++y :: Y) (i:X≠[]) (t:M.head?.map (·.lo)=some x.lo) (j:A≠[]->∀ m,hdN M m=x.n)
 (l:Yy (A++(⟨x.n,x.lo,X++y :: Y⟩:Nd) :: B)) (e:Halves Ds.isEmpty X (y :: Y)) (f':Nat) {G':Nat->Pg} (c:G' x.n=BM Ds.isEmpty (⟨m,y.k,y :: Y⟩ :: B) ⟨x.n,x.lo,X⟩) (d:G' m=BM Ds.isEmpty B ⟨m,y.k,y :: Y⟩) (o:y.k.length<=200) (p:x.lo.length<=200) (q:Ds≠[]->X.head?.map (·.k)=some x.lo) :
 Seg G G' f f' root A M [⟨x.n,x.lo,X⟩,⟨m,y.k,y :: Y⟩] B Ds:=by
 refine⟨by rw[g];simp, ?_,λz a=>?_,λr m2=>(j r m2).symm,λb z a=>?_,λb=>?_,λb z a _=>?_,λz a _=>?_⟩
 ·have:=yI l rfl i x.n m;simpa using this
 ·rcases BI.1 a with rfl | a
  ·exact p
  ·rw[BH.1 a];exact o
 ·rcases BI.1 a with rfl | a
  ·exact q b
  ·rw[BH.1 a];rfl
 ·subst b;exact⟨λ_=>c,λ_=>d,trivial⟩
 ·have s:Ds.isEmpty=false:=by cases Ds with | nil=>exact absurd rfl b | cons _ _=>rfl
  rw[s]at c d
  rcases BI.1 a with rfl | a
  ·exact c
  ·rw[BH.1 a];exact d
 ·rcases BI.1 a with rfl | a
  ·exact e.tX _ _ _
  ·rw[BH.1 a];exact e.uB _ _ _
def GD1 {G:Nat->Pg} {f root:Nat} {A B:List Nd} {l r:Nd} {Ds:List (List Nd)} (h:BP G f root (A++[l,r]++B) Ds) (f':Nat) {G':Nat->Pg} (d:G' l.n=BM Ds.isEmpty B ⟨l.n,l.lo,l.its++r.its⟩) (g:La Ds.isEmpty root ⟨l.n,l.lo,l.its++r.its⟩) :
 Seg G G' f f' root A [l,r] [⟨l.n,l.lo,l.its++r.its⟩] B Ds:=by
 refine⟨by simp, ?_,λz a=>?_,λ_ m2=>rfl,λb z a=>?_,λb=>?_,λb z a _=>?_,λz a _=>?_⟩
 ·have:=xO (A:=A) (B:=B) (l:=l) (r:=r) (by have:=h.ord;simpa using this) l.n;simpa using this
 ·rw[BH.1 a];exact h.RZ0 l (by simp)
 ·rw [BH.1 a];have c:=Mc h b l (by simp);show(l.its++r.its).head?.map (·.k)=some l.lo
  cases e:l.its with
  | nil=>rw[e]at c;simp at c
  | cons i t=>rw[e]at c;exact c
 ·subst b;exact⟨λ_=>d,trivial⟩
 ·have j:Ds.isEmpty=false:=by cases Ds with | nil=>exact absurd rfl b | cons _ _=>rfl
  rw[j]at d;rw[BH.1 a];exact d
 ·rw[BH.1 a];exact g
end Go.Proofs.YtjihboddejaelaaGreat
