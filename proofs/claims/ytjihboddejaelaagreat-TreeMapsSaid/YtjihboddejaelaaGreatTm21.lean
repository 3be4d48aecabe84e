/-
  Package tree: Scan.
-/
import Derived.Test.YtjihboddejaelaaGreatTm19
import Derived.Test.YtjihboddejaelaaGreatTm6
import Derived.Test.YtjihboddejaelaaGreatTm7
import Derived.Deep.CutBlock
import Derived.Test.YtjihboddejaelaaGreatTm1
import Derived.Deep.LoopGhost
import Derived.Lib.Strings
import Derived.Test.YtjihboddejaelaaGreatTm20
import Derived.Test.YtjihboddejaelaaGreatTm4
set_option linter.unusedVariables false
set_option linter.unusedSimpArgs false
set_option linter.defProp false
set_option maxRecDepth 100000
set_option maxHeartbeats 100000000
namespace Go.Proofs.YtjihboddejaelaaGreat
open Go.RowKit Go.BigFrame
section
variable {G:Nat->Pg} {root i:Nat} {A B:List Nd} {x:Nd} {E:List En} {P:List (List Nat)} {key:Ky}
def GP1 (h:BP G 0 root (A++x :: B) []) (n:At key A x B) (hi:cnt key false x.its=i) (o:Kz G (Jd (A++x :: B) []) E P) :
 ∃ E1 R b a,E=E1++R/\P=b++a/\Kz G (x.its.drop i++B.flatMap (·.its)) R a/\(∀ e∈E1,ltK e.1 key)/\∀ e∈R,EU key e.1:=by
 by_cases p:i<x.its.length
 ·by_cases r:x.its[i].k=key
  ·obtain ⟨E1,u,E2,b,q,a,d,f,f1,f2,g,j,l⟩:=aH h n hi p r o;refine⟨E1,(key,u) :: E2,b,q :: a,d,f, ?_,j,λe c=>?_⟩
   ·rw[FQ p];exact⟨r,f2,g⟩
   ·rcases BI.1 c with rfl | c
    ·exact Md.2 (Ia _)
    ·exact Md.2 λm=>Ia _ (Fg m (l e c))
  ·obtain ⟨E1,E2,b,a,d,f,f1,g,j,l,s⟩:=Ut h n hi (λ_=>r) o;exact⟨E1,E2,b,a,d,f,g,j,λe c=>Md.2 λm=>Ia _ (Fg m (l e c))⟩
 ·obtain ⟨E1,E2,b,a,d,f,f1,g,j,l,s⟩:=Ut h n hi (λt=>absurd t p) o;exact⟨E1,E2,b,a,d,f,g,j,λe c=>Md.2 λm=>Ia _ (Fg m (l e c))⟩
end
def gK(i:It):Prop:=i.k.length<=200/\i.r.length<=300
def LW(j:Nat)(x:Nd)(B:List Nd):List It:=x.its.drop j++B.flatMap (·.its)
def WJ(B:List Nd):Nat:=(B.map λy=>y.its.length+1).sum
structure fM (W0 wr:World) (X:List (Option Nat)) (p tb root xb c K:Nat) (S S0:St) (P:List (List Nat)) (tk:Ky) (most:Int) (T:List En) (N:Nat) (x:Nd) (B:List Nd) (j cp:Nat) (A:Option Addr) (X':List (Option Nat)) (k:Nat) (dn rem:List En) (Q:List (List Nat)) (v8:Value):Prop where
 le:j<=x.its.length
 il:x.its.length<=60000
 sm:KW W0 wr X X' tb p root xb x.n (hdN B 0) x.its.length cp A (x.its.map Af) v8 dn
 pt:PT wr X' p S S0 c k
 kk:k+4*(LW j x B).length+B.length<=K
 en:Kz S.G (LW j x B) rem Q
 qq:∀ q∈Q,q∈P
 lf:KN S.G 0 B 0
 br:∀ y∈B,0<y.n/\y.n<S.q
 ok:∀ i∈x.its++B.flatMap (·.its),gK i
 sp:QH tk most T dn rem
 nn:dn.length+rem.length=N
def RN1(d:World)(X:List (Option Nat))(p tb root xb c K:Nat)(S S0:St)(P:List (List Nat))(tk:Ky)(most:Int)(T:List En)(N:Nat)(e:Nat)(f a:Value)(wr:World):Prop :=
 ∃(x:Nd) (B:List Nd) (j cp:Nat) (A:Option Addr) (X':List (Option Nat)) (k:Nat) (dn b:List En) (Q:List (List Nat)),a = .int .i64 j/\e=(x.its.length-j)+WJ B/\fM d wr X p tb root xb c K S S0 P tk most T N x B j cp A X' k dn b Q f
def KZ1{S:St}{root:Nat}{c x:Nd}{b:List (List Nd)}{E:List En}{P:List (List Nat)}{A B:List Nd}{ups:List CY}(d:Vp S root c b E P)(j:FI S.G 0 root A x B ups)(h:N9 A x B [] ups=(c,b)):(∀ y∈B,0<y.n/\y.n<S.q)/\B.length<=S.q:=by
 have e:=UL (Ds:=[]) j;rw[h]at e;have f:∀ y∈B,y.n∈Gl [c] b:=λy a=>e.mem_iff.2 (BL _ (Cm (by simp[a]) []));refine⟨λy a=>by have:=d.rng _ (BL _ (f y a));exact⟨this.1,this.2.1⟩, ?_⟩;have k:=e.nodup_iff.1 (CZ.1 d.nd).1
 have i:(B.map (·.n)).Nodup:=by
  have g:=(CZ.1 k).1
  have l:Gl (A++x :: B) []=A.map (·.n)++x.n :: B.map (·.n):=by show(A++x :: B).map _=_;simp
  rw[l]at g;exact(FP.1 (CZ.1 g).2.1).2
 have:=Ux S.q _ i (λq m=>by obtain⟨y,a,rfl⟩:=DI.1 m;exact(d.rng _ (BL _ (f y a))).2.1);rw[BZ]at this;exact this
def NY1{G:Nat->Pg}{root:Nat}{A B:List Nd}{x:Nd}(h:BP G 0 root (A++x :: B) []):KN G 0 B 0:=by
 obtain⟨_,a⟩:=Jh.1 (Jw.pages h);exact a.2
def MV1{G:Nat->Pg}{root:Nat}{A B:List Nd}{x:Nd}(h:BP G 0 root (A++x :: B) []):∀ i∈x.its++B.flatMap (·.its),gK i:=λi hi=>by
 have q:CO i<=244/\i.k.length<=200:=by
  rcases BO.1 hi with hi | hi
  ·have q:=BP.sz h (x:=x) (by simp) hi;exact⟨q.1,q.2.1⟩
  ·obtain ⟨y,a,hi⟩:=MG.1 hi;have q:=BP.sz h (x:=y) (by simp[a]) hi;exact⟨q.1,q.2.1⟩
 have b:=q.1;unfold CO at b;exact⟨q.2,by omega⟩
def iU {w a wr:World} {X:List (Option Nat)} {p tb root xb c K K2 eb N:Nat} {S S0:St} {P Q:List (List Nat)} {tk fr:Ky} {most:Int} {T E:List En} {x:Nd} {B:List Nd} {j cp k:Nat} {A:Option Addr} {X':List (Option Nat)} {dn e:List En} {b:Value} (f:Turn X X w a) (n:w.heap.size=eb) (o:a.heap.size=eb+1) (i:some eb∉X)
 (h:fM a wr X p tb root xb c K S S0 P tk most T N x B j cp A X' k dn e Q b) (q:K<=K2) (r:K2<=800000000) (l:NY fr tk most E=dn):aN X w p S S0 c K2 (NY fr tk most E) (.returned (.tuple #[b,.int .i64 0])) (wr.setCell ⟨eb,0,none⟩ (.int .i64 0)):=by
 rw[l];have s:=h.kk;have m:some eb∉X':=h.sm.tu.out i (by omega);refine⟨b,X',rfl,own_base (Bo h.sm.ow λg d=>CX _ _ _ _ (show g≠eb from by have:=(h.sm.ow.lt g d).1;omega)) (by omega),(h.pt.set m 0 _).more (AY _) (by omega),(f.trans h.sm.tu).Dz (by omega) 0 _,λg d=>(h.sm.ox g d).1⟩
def wY {w:World} {X:List (Option Nat)} {tb p root c k:Nat} {S S0:St} {x0:Nd} {bh:List (List Nd)} {E:List En} {P:List (List Nat)} {fr tk:Ky} {most:Int} (h:PT w X p S S0 c k) (ht:TM w X tb p root) (hc:c+400<=60000) (O:E.length<=60000) (hk:k<=500000000) (m:S.q<=49000)
 (u:Vp S root x0 bh E P) (h3:∀ ps∈P,ps.length<=3) :
 Calls Tryz.prog 36 #[.pointer (some ⟨tb,0,none⟩),.string (AQ fr),.string (AQ tk),.int .i64 most] w (aN X w p S S0 c (k+30+4*E.length+S.q) (NY fr tk most E)):=by
 have cn:∀(fn:Fn) (first cap:Array Value) (w:World),(Instr.makeFunc fn first cap).run Tryz.prog w = .ok (.func fn first cap) w:=λ_ _ _ _=>rfl;have ai:=h.ok;have bd:=aY u.tre (λq m=>by have:=u.rng q (BL _ m);exact⟨this.1,this.2.1⟩) (CZ.1 u.nd).1 (by omega);have DS:=Ac (λW (h:PT W X p S S0 c k) (ht:TM W X tb p root)=>Su h ht (by omega) (by omega) u.tre ai.pg (λq m=>by have:=u.rng q (BL _ m);exact⟨this.1,this.2.1⟩) (by omega) (by omega) fr)
 have HP:=Ac h;have C:=Ac ht;have HS:=Ac u;have H3:=Ac h3;have OK:=Ac ai;have b:=Ac (AV hc (AV hk (AV m (AV bd (AV ht.has.lt (AV ai.pos O))))));obtain⟨K,hK⟩:∃ s,AQ fr=s:=⟨_,rfl⟩;rw[hK]at DS ⊢;obtain⟨F,aq⟩:∃ s,AQ tk=s:=⟨_,rfl⟩;have b8:=Ac aq;rw[aq];clear h ht u h3 hc hk m bd ai hK O aq
 go_enter_defers Tryz.func36,Tryz.ntmps36
 go_wp2_with fail
 have B0:=Ag w (.cells #[.int .i64 0] 26);have P0:=HP.below B0;have M0:=C.below B0;have E0:=Ac (Has.new w 26 #[.int .i64 0]);have T:=Ac (show some w.heap.size∉X/\tb<w.heap.size from⟨λd=>by have:=HP.lt _ d;omega,C.has.lt⟩);have U0:=Ac (Turn.below X B0);have Z0:(w.alloc (.cells #[.int .i64 0] 26)).heap.size=w.heap.size+1:=ED _ _;clear B0 HP C;obtain⟨eb,au⟩:∃ n,w.heap.size=n:=⟨_,rfl⟩;have av:=Ac au;rw[au]at E0 T Z0 ⊢;generalize w.alloc (.cells #[.int .i64 0] 26)=W0 at *;have aa:=Ac Z0;refine(DS W0 P0 M0).mono ?_;rintro U w2 ⟨A,x,B,ups,rs,X2,v1,dn,ab,ak,hl,be,rfl,aw,ax,aj⟩;rw[Z0]at aj;obtain⟨D,hD⟩:∃ n,bh.length=n:=⟨_,rfl⟩;rw[hD]at hl aw b
 have ay:(Ig ups++[E8 fr B x]).length=D+1:=by rw[A8,Ci,hl];rfl
 have s1:(Ig ups++[E8 fr B x])[D]? = some (E8 fr B x):=by rw[GU (by rw[Ci];omega),Ci,hl,I9];rfl
 obtain⟨pb,cap,b9,a,rfl,ha,bi,az,st⟩:=aj.step s1;rw[ay]at aj az ⊢;rw[JA 5 D]at st;have bj:=Ac st;have P1:=Ac aw;have M1:=Ac (M0.turn ax);have U1:=Ac (ax);have DN:=Ac dn;have AB:=Ac ab;have AK:=Ac ak;have HL:=Ac (AV hl (AV be (AV hD (AV ay s1))));clear dn ab ak hl be aw ax aj ay s1 ha bi az DS P0 M0 hD au
 obtain⟨i,hi⟩:∃ n,cnt fr false x.its=n:=⟨_,rfl⟩;obtain⟨cs,a0⟩:∃ l,x.its.map Af=l:=⟨_,rfl⟩;have es:(E8 fr B x).pg.2.2=cs:=a0;have ei:(E8 fr B x).i=i:=hi;have L:=Ac (AV hi a0);obtain⟨V,a1⟩:∃ l,hdN B 0=l:=⟨_,rfl⟩
 have st:Nc w2 X2 pb (D*5) x.n 1 V i cs.length a.2 a.1 b9 cs:=by rw[<- es,<- ei,<- a1];exact bj
 have HB:=Ac a1;clear bj es ei hi a0 a1
 have i1:(D:Int)<(D:Int)+1:=by omega
 have co:D<=15:=b.2.2.2.1;obtain⟨g0,g1,g2,g3,g4⟩:=st.at5;have gz:=st.hb.lt;have gf:=st.hb.frozen
 go_upto_region 5 with fail
 have bk:some w2.heap.size∉X2:=λd=>by have:=P1.lt _ d;omega
 have NB:=Has.new w2 116 #[.int .i64 x.n,.int .i64 1,.int .i64 V,.slice a.1 cs.length a.2];have Y:=Ag w2 (.cells #[.int .i64 x.n,.int .i64 1,.int .i64 V,.slice a.1 cs.length a.2] 116);have P3:=P1.below Y
 have bl:∀ a',a.1=some a'->some a'.block∉X2/\a'.block<(w2.alloc (.cells #[.int .i64 x.n,.int .i64 1,.int .i64 V,.slice a.1 cs.length a.2] 116)).heap.size/\a'.block≠w2.heap.size:=λa' e=>by
  have q0:(Value.slice a.1 cs.length a.2).ownBlock=some a'.block:=by rw[e];rfl
  have q1:=(st.row.lt _ q0).2;exact⟨(st.rx _ q0).1,DD q1 Y.size,by omega⟩
 have ag:=HS.ent;have a2:=Xt (Ds:=[]) AB;rw[HL.2.1]at a2;rw[a2]at ag;obtain⟨E1,R,cq,Q,O,hP,f1,f2,f3⟩:=GP1 DN AK L.1 ag
 have bm:x.its.length<=60000:=by
  have q1:=(Kz.len ag).1
  have q2:(Jd (A++x :: B) []).length=(A.flatMap (·.its)).length+(x.its.length+(B.flatMap (·.its)).length):=by show((A++x :: B).flatMap (·.its)).length=_;rw[H5,IK,A8,A8]
  have:=b.out;omega
 obtain⟨bn,ca⟩:=KZ1 HS AB HL.2.1
 have bo:i<=x.its.length:=by rw[<- L.1];exact cnt_le _ _ _
 have hT:(KF tk (E.dropWhile λe=>decide (ltK e.1 fr)))=KF tk R:=by rw[O,vT f2 f3]
 have bf:=Kz.len f1
 have bp:R.length<=E.length:=by rw[O,A8];omega
 have bb:=Ac (show fM W0 (w2.alloc (.cells #[.int .i64 x.n,.int .i64 1,.int .i64 V,.slice a.1 cs.length a.2] 116)) X p tb root w2.heap.size c (k+D+1+4*E.length+S.q) S S0 P tk most (KF tk R) R.length x B i a.2 a.1 X2 (k+D+1) [] R Q (.slice none 0 0)from by
  refine⟨bo,bm,⟨U1.next Y,M1.below Y, ?_,bk,U1.size, ?_,by have:=T.2;have:=aa.out;omega, ?_, ?_, ?_, ?_⟩,P3, ?_,f1, ?_,NY1 DN,bn,MV1 DN,⟨rfl, ?_⟩,by simp⟩
  ·rw[HB.out,<- L.2,BZ]at *;exact NB
  ·have:=M1.has.lt;omega
  ·have q:=st.ss.keep Y
   have e9:x.its.length=cs.length:=by rw[<- L.2,BZ]
   rw[L.2,e9];exact q
  ·exact bl
  ·exact JJ _ _ _ _
  ·intro g hg;cases hg
  ·have:(LW i x B).length=R.length:=bf.1.symm;omega
  ·intro q m;rw[hP];exact BC _ m
  ·by_cases d:most<0
   ·exact .inl d
   ·exact .inr (by simp;omega))
 have C:=Ac hT;have a3:=Ac bp;have XB:=Ac (show w2.heap.size≠eb from by have:=U1.size;have:=aa.out;omega);obtain⟨xb,bq⟩:∃ n,w2.heap.size=n:=⟨_,rfl⟩;rw[bq]at bb XB ⊢;clear bk NB Y P3 bl ag a2 O hP f1 f2 f3 bn ca bo bm hT bf bp st g0 g1 g2 g3 g4 gz gf P1 M1 U1 DN AB AK HL L HB bq Z0;generalize w2.alloc (.cells #[.int .i64 x.n,.int .i64 1,.int .i64 V,.slice a.1 cs.length a.2] 116)=W3 at *
 go_loopg [8,12] ((x.its.length-i)+WJ B) (λgg v8 cb wr=>RN1 W0 X p tb root xb c (k+D+1+4*E.length+S.q) S S0 P tk most (KF tk R) R.length gg v8 cb wr)
 case atStart=>exact⟨x,B,i,_,_,_,_,_,_,_,rfl,rfl,bb⟩
 case round =>
  obtain⟨x,B,j,cp,A,X',k',dn,a4,Q,rfl,hg,h⟩:=hrel;obtain⟨Av,cv,rfl,_⟩:=Bg h.sm.ow;have HG:=Ac hg;have H:=Ac h;have E7:=h.sm.tu.has E0 (λd=>T.1 d);have e0:=E7.cell 0;have ef:=E7.frozen;have ez:=E7.lt;have g1:=h.sm.nb.cell 1;have g2:=h.sm.nb.cell 2;have g3:=h.sm.nb.cell 3;have gz:=h.sm.nb.lt;have gf:=h.sm.nb.frozen;clear h hg E7;by_cases d:(dn.length:Int)=most
  ·have em:((dn.length:Int) != most)=false:=by rw [QS];exact d
   have ac:=Ac (iU (fr:=fr) (E:=E) U0 av aa T.1 H (K2:=k+30+4*E.length+S.q) (by have:=b.out;omega) (by have:=b.out;omega) (by unfold NY;simp only[C.out];exact H.sp.full d))
   go_wp2_with fail
   refine JI (f:=110) (args:=#[.pointer (some ⟨eb,0,none⟩)]) (by simp) (by simp[go_sem]) ?_;refine(Vj ⟨eb,0,none⟩ _).mono ?_;rintro e u' bs ⟨rfl,rfl,rfl⟩;simp[Leaves,settle,results,Tryz.results36,go_sem,ez,ef,e0];exact ac
  ·have em:((dn.length:Int) != most)=true:=by rw [OE];exact d
   have HM:=Ac d;clear d;by_cases hj:j<x.its.length
   ·have ej:((j:Int) == (x.its.length:Int))=false:=by rw [FK];omega
    obtain⟨o,ad⟩:∃ t,x.its[j]=t:=⟨_,rfl⟩
    have bt:(x.its.map Af)[j]? = some (Af o):=by rw[GH,DK hj,ad];rfl
    have a5:o.k.length<=200/\o.r.length<=300:=H.ok o (BL _ (by rw[<- ad];exact EI _));have G:=Ac (λW=>Il o a5.1 (by omega) W);obtain⟨gr,off,ar,gl,lc⟩:=H.sm.ss.2 (by omega);have bu:=lc j _ bt
    have z1:(j:Int)<(x.its.length:Int):=by omega
    have z2:(x.its.length:Int)<=60000:=by have:=H.il;omega
    have a6:LW j x B=o :: LW (j+1) x B:=by unfold LW;rw[FQ hj,ad];rfl
    have al:=H.en;rw[a6]at al
    obtain⟨e,an,rfl⟩:∃ e an,a4=e :: an:=by
     cases a4 with
     | nil=>cases Q <;> exact al.elim
     | cons e l=>exact⟨e,l,rfl⟩
    obtain⟨q,Q2,rfl⟩:∃ q Q2,Q=q :: Q2:=by
     cases Q with
     | nil=>exact al.elim
     | cons q l=>exact⟨q,l,rfl⟩
    obtain⟨a7,bv,bw⟩:=al;have CJ:=Ac (AV a7 (AV bv bw));have cc:=Ac a6;have cd:=Ac a5;rw[a7]at G;rw[ar]at g3;clear lc bt a7 bv bw a6 a5
    have ae:F.toList=tk:=by rw[<- b8.out,EL,Cb]
    have af:(AQ e.1).toList=e.1:=by rw[EL,Cb]
    by_cases M:tk=[]\/ltK e.1 tk
    ·have VA:=Ac (λce=>Tj H.pt H.sm.tm (by have:=b.out;omega) (by have:=H3 q (H.qq q AZ);have:=b.out;have:=H.kk;omega) cd.1 CJ.2.1 ce);have Q3:=Ac (H3 q (H.qq q AZ));have VB:=Ac (VA (λy hy=>by have:=HS.rng y (BC _ (List.mem_flatten.2 ⟨q,H.qq q AZ,hy⟩));exact⟨this.1,this.2.1⟩));have cf:=Ac M;obtain⟨KE,J⟩:∃ v,AQ e.1=v:=⟨_,rfl⟩;obtain⟨VE,a8⟩:∃ v,AQ e.2=v:=⟨_,rfl⟩;obtain⟨CB,N⟩:∃ v,Af o=v:=⟨_,rfl⟩;have bx:=Ac (AV J (AV a8 N));rw[J]at af G;rw[N]at G VB bu;rw[a8]at VB
     have cg:(F.toList=[])\/(¬ F.toList=[]/\Op.bytesLess KE.toList F.toList=true):=by
      rw[ae,af]
      by_cases h0:tk=[]
      ·exact .inl h0
      ·exact .inr ⟨h0,M.resolve_left h0⟩
     obtain⟨i0,hi,ch,ci,cj⟩:=IP Qu;have G1:=Ac (show dn.length+1<=maxLen by have:=H.nn;have:=a3.out;have:=b.out;unfold maxLen;omega);have G2:=Ac (show(dn.length+1)*32<=140737488355328 by have:=H.nn;have:=a3.out;have:=b.out;omega);clear VA M J a8 N ae af ad hj
     rcases cg with t1 |⟨t1,t2⟩
     all_goals
      go_wp2_with (first
       |(go_at_call 51;refine(G _).mono ?_;rintro e w1 ⟨rfl,rfl⟩)
       |(go_at_call 111;(with_reducible refine VB.out.mono ?_);rintro U Z ⟨rfl,X4,bz,b0⟩;have P4:=Ac bz;have M4:=Ac (H.sm.turn b0);clear bz b0)
       |(at_builtin;(refine Aq _ rfl (.tmp 65) (.tmp 76) 81 81 rfl W0.heap.size 177 i0 _ 2 32 FZ hi ch ci cj Di (by decide) (.slice Av dn.length cv) dn.length (Oj dn) rfl (M4.ow.alloc _) (.slice (some ⟨Z.heap.size,0,none⟩) 1 1) 1 [.string KE,.string VE] rfl (IW _ FZ ⟨Z.heap.size,0,none⟩ 1 1 [.string KE,.string VE] rfl (JQ (I8 Z _)) (by simp[Value.oneCell'])) G1 G2 (BN M4.tu.size (by simp)) ?_);intro v7 w7 bc b1 _ bg;have O7:=Ac bc;have b2:=Ac b1;have ck:=Ac bg;clear bc b1 bg))
      go_roundg ((x.its.length-(j+1))+WJ B)
      case rel =>
       have b3:Below Z.heap.size Z (Z.alloc (.cells #[.string KE,.string VE] 177)):=Ag _ _;have o7:=O7.out;rw[<- bx.1,<- bx.2.1]at o7;have kk:=H.kk;rw[cc.out,DF]at kk;have n1:=H.nn;rw[DF]at n1;have q3:=Q3.out;refine⟨x,B,j+1,cp,A,X4,k'+q.length,dn++[e],an,Q2,D8 (Value.int .i64) (by omega),rfl,⟨by omega,H.il,M4.app (λi hi=>P4.lt i hi) b3 o7 b2 ck,(P4.below b3).grown b2 λi e=>(M4.ox i e).1,by omega,CJ.2.2,λz hz=>H.qq z (BF _ hz),H.lf,H.br,H.ok,H.sp.next HM cf,by rw[A8,JB];omega⟩⟩
      case measure=>have:=HG.out;omega
    ·have ao:tk≠[]:=λe=>M (.inl e);have ap:¬ ltK e.1 tk:=λe=>M (.inr e)
     have t1:¬ F.toList=[]:=by rw[ae];exact ao
     have t0:F.toList.isEmpty=false:=by rw[dC];exact t1
     have t2:Op.bytesLess (AQ e.1).toList F.toList=false:=by rw[ae,af];exact dO.2 ap
     have ac:=Ac (iU (fr:=fr) (E:=E) U0 av aa T.1 H (K2:=k+30+4*E.length+S.q) (by have:=b.out;omega) (by have:=b.out;omega) (by unfold NY;simp only[C.out];exact H.sp.ends (AS1 ao ap)));obtain⟨KE,J⟩:∃ v,AQ e.1=v:=⟨_,rfl⟩;rw[J]at G t2;obtain⟨CB,N⟩:∃ v,Af o=v:=⟨_,rfl⟩;rw[N]at G bu;clear M ao ap ae af J N ad hj
     go_wp2_with (first |(go_at_call 51;refine(G _).mono ?_;rintro e w1 ⟨rfl,rfl⟩))
     refine JI (f:=110) (args:=#[.pointer (some ⟨eb,0,none⟩)]) (by simp) (by simp[go_sem]) ?_;refine(Vj ⟨eb,0,none⟩ _).mono ?_;rintro e u' bs ⟨rfl,rfl,rfl⟩;simp[Leaves,settle,results,Tryz.results36,go_sem,ez,ef,e0];exact ac
   ·have a9:j=x.its.length:=by have:=H.le;omega
    have ej:((j:Int) == (x.its.length:Int))=true:=by rw[OG];omega
    cases B with
    | nil =>
      have ac:=Ac (iU (fr:=fr) (E:=E) U0 av aa T.1 H (K2:=k+30+4*E.length+S.q) (by have:=b.out;omega) (by have:=b.out;omega) (by
       unfold NY;simp only[C.out];refine H.sp.ends ?_;have q:=(H.en.len).1;rw[a9]at q;simp[LW]at q
       rw[q];rfl))
      rw[show hdN ([]:List Nd) 0=0 from rfl]at g2
      go_wp2_with fail
      refine JI (f:=110) (args:=#[.pointer (some ⟨eb,0,none⟩)]) (by simp) (by simp[go_sem]) ?_;refine(Vj ⟨eb,0,none⟩ _).mono ?_;rintro e u' bs ⟨rfl,rfl,rfl⟩;simp[Leaves,settle,results,Tryz.results36,go_sem,ez,ef,e0];exact ac
    | cons y r =>
      have hy:=H.br y AZ;have hG:=H.lf.1 (by omega);have LD:=Ac (Jg H.pt H.sm.tm (by have:=b.out;omega) (by have:=b.out;have:=H.kk;omega) hy.2 (OK.pg y.n hy.2) (.inl (by rw[hG])));rw[hG]at LD
      have eh:((y.n:Int) == 0)=false:=by rw[FK];omega
      rw[show hdN (y :: r) 0=y.n from rfl]at g2
      obtain⟨cl,ah⟩:∃ l,y.its.map Af=l:=⟨_,rfl⟩
      have e9:y.its.length=cl.length:=by rw[<- ah,BZ]
      have cm:=Ac (AV ah e9);rw[ah]at LD;have HJ:=Ac a9;clear hG hy ah e9 hj a9
      go_wp2_with (first
       |(go_at_call 62;(with_reducible refine LD.out.mono ?_);rintro U w5 ⟨A1,c1,X5,rfl,b4,ba,b5,b6⟩;have I:=(H.sm.turn ba).nb;have k0:=I.cell 0;have k1:=I.cell 1;have k2:=I.cell 2;have k3:=I.cell 3;have kz:=I.lt;have kf:=I.frozen;have P5:=Ac b4;have T5:=Ac ba;have O5:=Ac b5;have Q5:=Ac b6;clear I b4 ba b5 b6))
      go_roundg (y.its.length+WJ r)
      case rel =>
       obtain⟨q1,q2⟩:=cm;subst q1;have am:=(H.sm.turn T5).nx;have sm:=H.sm.node T5 (n2:=y.n) (hb2:=hdN r 0) O5 Q5;have pt:=(((P5.set am 0 (.int .i64 y.n)).set am 1 (.int .i64 1)).set am 2 (.int .i64 (hdN r 0))).set am 3 (.slice A1 (y.its.map Af).length c1)
       have er:LW j x (y :: r)=LW 0 y r:=by unfold LW;rw[HJ.out,nJ,IK];rfl
       have kk:=H.kk;rw[er,DF]at kk;have U:=H.en;rw[er]at U
       have b7:y.its.length<=60000:=by
        have l1:=U.len.1
        have l2:(LW 0 y r).length=y.its.length+(r.flatMap (·.its)).length:=by unfold LW;rw[A8];rfl
        have:=H.nn;have:=a3.out;have:=b.out;omega
       have ok:∀ i∈y.its++r.flatMap (·.its),gK i:=λi hi=>H.ok i (BC _ (by rw[IK];exact hi));have c9:(y.its.map Af).length=y.its.length:=BZ ..;rw[c9]at sm pt ⊢;exact⟨y,r,0,c1,A1,X5,_,dn,a4,Q,rfl,by omega,⟨BR _,b7,sm,pt,by omega,U,H.qq,H.lf.2,λz hz=>H.br z (BF _ hz),ok,H.sp,H.nn⟩⟩
      case measure=>have:=HG.out;unfold WJ at this ⊢;rw[DW,PW]at this;omega
end Go.Proofs.YtjihboddejaelaaGreat
namespace Go.Proofs.YtjihboddejaelaaGreat
open Go.RowKit
attribute [local go_sem] Ea Bz
def DV0 {md:Region.Mode} {l:List Oper} {q:Nat} {a:Array Bool} (h:∀ (i:Nat) (o:Oper),l[i]? = some o->∀ e∈o.after,Region.binds md e=true->e.on<i) (k:∀ (i:Nat) (o:Oper),l[i]? = some o->a.getD i true=true->∀ e∈o.after,Region.binds md e=true->a.getD e.on false=true) (p:a.size=l.length) :
 ∀ j,j<l.length->waits md l j q=true->a.getD j true=true->a.getD q false=true:=by
 intro j
 induction j using Nat.strongRecOn with
 | _ j r =>
   intro u s t
   have c:l[j]? = some l[j]:=by simp
   obtain⟨e,f,g,m⟩:=Kq c s;have n:=h j _ c e f g;have b:=k j _ c t e f g
   rcases m with d |⟨_,d⟩
   ·rw[d]at b;exact b
   ·refine r e.on n (by omega) d ?_;rw[getD_lt (by rw[p];omega)]at b ⊢;exact b
section
variable {P:Program} {md:Region.Mode} {Q:Exit->Act->World->Prop}
def AE1 {l1 l2:List Oper} {a:Act} {Ph:Bool->World->Prop} {PP:Nat->Value->World->Prop} {q:Nat} {st:Nat->Bool} (hd:Jk l1=true) (B:MK md l1.length (l1++l2)=true) (ay:∀ j,j≠q->st j=false->j<l1.length->waits md (l1++l2) j q=true) (az:q<l1.length)
 (hC:∀ b w w',Ph b w->Below w.heap.size w w'->Ph b w') (a0:∀ j u w w',Below w.heap.size w w'->PP j u w->PP j u w') (ar:∀ j u w w',st j=true->PP j u w->PP j u w')
 (au:∀ (b:Bool) (f:List Value) (w:World),f.length=l1.length->Ph b w->∀ i o,i≠q->(b=true->waits md (l1++l2) q i=false)->l1[i]? = some o->(∀ j,(o.after.toList.any λe=>Region.binds md e && e.on == j)=true->PP j (f.getD j undef) w) ->
   Ea P (l1++l2).toArray PP NV i o (Bq l1 f a) w)
 (av:∀ (f:List Value) (w:World),f.length=l1.length->Ph false w->∀ o,l1[q]? = some o->(∀ j,(o.after.toList.any λe=>Region.binds md e && e.on == j)=true->PP j (f.getD j undef) w) ->
   Region.wanted o (yielded (l1++l2).toArray (Bq l1 f a).tmps)=true/\Bz P (λv w'=>Ph true w'/\PP q v w') ((execOp (Bq l1 f a).eval o).run P w))
 (ah:∀(f:List Value) (w:World),f.length=l1.length->Ph true w->(∀ j,j<l1.length->PP j (f.getD j undef) w)->wpList P (l1++l2).toArray Q l2 (Bq l1 f a) w) :
 ∀ (z:Nat) (c:Array Bool) (f:List Value) (w:World),c.size=l1.length+l2.length->c.toList.count false=z->f.length=l1.length->Ph (c.getD q false) w ->
   (∀ j,j<l1.length->c.getD j true=true->PP j (f.getD j undef) w)->(∀ j,l1.length<=j->j<l1.length+l2.length->c.getD j true=false) ->
   (∀ i o,(l1++l2)[i]? = some o->c.getD i true=true->∀ e∈o.after,Region.binds md e=true->c.getD e.on false=true) ->
   wpAny P md (l1++l2).toArray Q z c (Bq l1 f a) w:=by
 intro z
 induction z with
 | zero =>
   intro c f w g hc C t F M N
   have s:∀ j,j<c.size->c.getD j true=true:=λj d=>by
    have hn:false∉c.toList:=λhm=>by have:=List.count_pos_iff.2 hm;omega
    rw[getD_lt d]
    cases G:c[j]with
    | true=>rfl
    | false=>exact absurd (by rw[<- G];simp) hn
   have L:l2=[]:=by
    cases l2 with
    | nil=>rfl
    | cons x l =>
      have:=M l1.length (AY _) (by simp);rw[s _ (by rw[g];simp)]at this
      cases this
   subst L
   have aa:c.getD q false=true:=by have:=s q (by rw[g];simp;omega);rw[getD_lt (by rw[g];simp;omega)]at this ⊢;exact this
   rw[aa]at t;have n:=ah f w C t (λj d=>F j d (s j (by rw[g];simp;omega)))
   have:=Ue (P:=P) (Q:=Q) (md:=md) (ops:=(l1++[]).toArray) (m:=l1.length) (by simpa using B) [] l1.length c (Bq l1 f a) w (AY _) (by simpa using g)
    (λj d=>by have:=s j (by rw[g];simp;omega);rw[getD_lt (by rw[g];simp;omega)]at this ⊢;exact this)
    (λj d O=>by simp at O;omega) (by simp) n
   exact this
 | succ z ih =>
   intro c f w g hc C t F M N;by_cases s:∀ j,j<l1.length->c.getD j true=true
   ·have aa:c.getD q false=true:=by have:=s q az;rw [getD_lt (by rw [g];omega)] at this ⊢;exact this
    rw[aa]at t;have n:=ah f w C t (λj d=>F j d (s j d))
    have aw:l2.length=z+1:=by
     rw[<- hc]
     have e:c.toList=List.replicate l1.length true++List.replicate l2.length false:=by
      apply List.ext_getElem
      ·simp[g]
      ·intro j T L
       have d:j<c.size:=by simpa using T
       rw[Aa6]
       split
       ·rename_i H;have:=s j (by simpa using H);rw[getD_lt d]at this;simpa using this
       ·rename_i a1;have:=M j (by simpa using a1) (by rw[<- g];exact d);rw[getD_lt d]at this;simpa using this
     rw[e,JD,YH,YH];simp
    have:=Ue (P:=P) (Q:=Q) (md:=md) (ops:=(l1++l2).toArray) (m:=l1.length) (by simpa using B) l2 l1.length c (Bq l1 f a) w (AY _) (by simpa using g)
     (λj d=>by have:=s j d;rw[getD_lt (by rw[g];omega)]at this ⊢;exact this)
     (λj d O=>M j d (by simpa using O)) (by simp) n
    rw[aw]at this;exact this
   ·have a2:∃ j,j<l1.length/\c.getD j true=false:=by
     refine FC λab=>s λj d=>?_
     cases G:c.getD j true with
     | true=>rfl
     | false=>exact absurd ⟨j,d,G⟩ ab
    have ax:∃ j,j<l1.length/\c.getD j true=false/\∀ i,i<j->c.getD i true=true:=by
     obtain⟨j,d,hf⟩:=a2
     induction j using Nat.strongRecOn with
     | _ j a3 =>
       by_cases h:∀ i,i<j->c.getD i true=true
       ·exact⟨j,d,hf,h⟩
       ·have:∃ i,i<j/\c.getD i true=false:=by
         refine FC λab=>h λi hi=>?_
         cases G:c.getD i true with
         | true=>rfl
         | false=>exact absurd ⟨i,hi,G⟩ ab
        obtain⟨i,hi,a4⟩:=this;exact a3 i hi (by omega) a4
    obtain⟨k,hk,V,ap⟩:=ax
    have af:(l1++l2).toArray[k]? = some l1[k]:=by simp[G9 hk,hk]
    have ai:k∈Region.ready md (l1++l2).toArray c:=MB.2 ⟨V,l1[k],af,λe n p=>by
     have H:=Hg B (i:=k) (o:=l1[k]) (by simpa using af) n p;have:=ap e.on (by omega);rw[getD_lt (by rw[g];omega)]at this ⊢
     exact this⟩
    refine⟨(λh0=>by rw[h0]at ai;cases ai),λi hi=>?_⟩;obtain⟨I,oi,J,X⟩:=MB.1 hi
    have aj:i<l1.length:=by
     rcases JR i l1.length with h | h
     ·exact h
     ·exfalso;have R:i<(l1++l2).length:=(C9.1 (show(l1++l2)[i]? = some oi by simpa using J)).1
      have key:∀ j,j<(l1++l2).length->waits md (l1++l2) j k=true->(c.getD j true=true\/j=i)->False:=by
       intro j
       induction j using Nat.strongRecOn with
       | _ j a5 =>
         intro hq D a6
         have A:(l1++l2)[j]? = some (l1++l2)[j]:=by simp
         obtain⟨e,n,p,a7⟩:=Kq A D;have H:=Hg B A n p
         have S:c.getD e.on false=true:=by
          rcases a6 with T | T
          ·exact N j _ A T e n p
          ·subst T
           have:(l1++l2)[j]=oi:=by
            have W:(l1++l2)[j]? = some oi:=by simpa using J
            rw[A]at W;exact CV W
           exact X e (by rw[<- this];exact n) p
         have a8:e.on<c.size:=by rw[g,<- A8];omega
         rcases a7 with L |⟨_,L⟩
         ·rw [L] at S;rw[getD_lt (by rw[g];omega)]at S V
          rw[S]at V;cases V
         ·refine a5 e.on H (by omega) L (.inl ?_);rw[getD_lt a8]at S ⊢;exact S
      exact key i R (Zm B R h (by omega)) (.inr rfl)
    have Y:l1[i]? = some oi:=by simpa[G9 aj]using J
    have ag:∀ j,(oi.after.toList.any λe=>Region.binds md e && e.on == j)=true->PP j (f.getD j undef) w:=λj d=>by
     obtain⟨x,hx,r⟩:=VQ.1 d;simp only[QA,OG]at r;have H:=Hg B (i:=i) (o:=oi) (by simpa using J) (by simpa using hx) r.1;have:=X _ (by simpa using hx) r.1;rw[r.2]at this H;refine F j (by omega) ?_;rw[getD_lt (by rw[g];omega)]at this ⊢;exact this
    have ao:(c.setIfInBounds i true).toList.count false=z:=by
     have R:i<c.toList.length:=by simp[g];omega
     have G:c.toList[i]=false:=by
      rw[getD_lt (by simpa using R)]at I;simpa using I
     rw[YO,List.count_set R,G,hc];simp
    have next:∀ v w',Ph ((c.setIfInBounds i true).getD q false) w'->(∀ j,j<l1.length->j≠i->c.getD j true=true->PP j (f.getD j undef) w')->PP i v w'->wpAny P md (l1++l2).toArray Q z (c.setIfInBounds i true) ((Bq l1 f a).put oi.dst v) w':=λv w' ac an U=>by
     rw[Zt v l1 f i oi a hd C Y];refine ih _ _ w' (by simpa using g) ao (by simpa using C) ac (λj d y=>?_) (λj d O=>?_) (λx o A Z e n ak=>?_)
     ·rw [Dt] at y;by_cases ad:i=j
      ·subst ad
       have:(f.set i v).getD i undef=v:=by simp[List.getD,C,aj]
       rw[this];exact U
      ·rw [AO (by omega)] at y
       have:(f.set i v).getD j undef=f.getD j undef:=by simp[List.getD,VN ad]
       rw[this];exact an j d (OJ ad) y
     ·rw [Dt,AO (by omega)];exact M j d O
     ·have aq:c.getD e.on false=true:=by
       rw[Dt]at Z;by_cases K:i=x
       ·subst K
        have W:(l1++l2)[i]? = some oi:=by simpa using J
        rw[W]at A
        cases A
        exact X e n ak
       ·rw [AO (λr=>K r.1)] at Z;exact N x o A Z e n ak
      rw[Dt]
      split
      ·rfl
      ·exact aq
    unfold wpOp;simp only[J];by_cases K:i=q
    ·subst K
     have al:c.getD i false=false:=by rw[getD_lt (by rw[g];omega)]at I ⊢;exact I
     rw[al]at t;obtain⟨hg,E⟩:=av f w C t oi Y ag;rw[AC hg];refine .inl (Oper.wp_mono (λa' w' r=>?_) (Ya E));obtain⟨v,rfl,ac,U⟩:=r
     refine next v w' ?_ (λj d a9 y=>?_) U
     ·rw[Dt,AC ⟨rfl,by rw[g];omega⟩];exact ac
     ·cases h:st j with
      | true=>exact ar j _ w w' h (F j d y)
      | false =>
        exfalso;have D:=ay j a9 h d;have:=DV0 (λx o ae e n p=>Hg B ae n p) N (by rw[g,A8]) j (by rw[A8];omega) D y
        rw[al]at this;cases this
    ·have E:=au _ f w C t i oi K (λp=>by
      cases D:waits md (l1++l2) q i with
      | false=>rfl
      | true =>
        exfalso;have:=DV0 (λx o ae e n p=>Hg B ae n p) N (by rw[g,A8]) q (by rw[A8];omega) D (by rw[getD_lt (by rw[g];omega)]at p ⊢;exact p);rw[getD_lt (by rw[g];omega)]at I this
        rw[I]at this;cases this) Y ag
     have am:(c.setIfInBounds i true).getD q false=c.getD q false:=by rw[Dt,AO (λr=>K r.1)]
     unfold Ea at E;by_cases D:Region.wanted oi (yielded (l1++l2).toArray (Bq l1 f a).tmps)=true
     ·rw [AC D] at E ⊢;refine .inl (Oper.wp_mono (λa' w' r=>?_) (Ya E));obtain⟨v,rfl,p,U,_⟩:=r
      exact next v w' (by rw[am];exact hC _ w w' t p) (λj d _ y=>a0 j _ w w' p (F j d y)) U
     ·rw [AO D] at E ⊢
      exact next undef w (by rw[am];exact t) (λj d _ y=>F j d y) E
def XA (P:Program) (ops:Array Oper) (PP:Nat->Value->World->Prop) (q:Nat) (b:Bool) (a:Nat->Bool) (A:Act) (c:List Value) (w:World):Nat->List Oper->Prop
 | _,[]=>True
 | i,o :: l=>(i=q\/(b=true/\a i=true)\/((∀ j,(o.after.toList.any λe=>Region.binds .any e && e.on == j)=true->PP j (c.getD j undef) w)->Ea P ops PP NV i o A w))/\XA P ops PP q b a A c w (i+1) l
def XA.at {P:Program} {ops:Array Oper} {PP:Nat->Value->World->Prop} {q:Nat} {b:Bool} {a:Nat->Bool} {A:Act} {c:List Value} {w:World}:∀ {k:Nat} {l:List Oper},XA P ops PP q b a A c w k l->∀ i o,k+i≠q->(b=true->a (k+i)=false)->l[i]? = some o ->
 (∀ j,(o.after.toList.any λe=>Region.binds .any e && e.on == j)=true->PP j (c.getD j undef) w)->Ea P ops PP NV (k+i) o A w
 | _,[],_,i,o,_,_,h,_=>by simp at h
 | k,x :: l,hg,i,o,hq,hb,hi,hd=>by
   cases i with
   | zero =>
     simp only[nH,XW]at hi;subst hi
     rcases hg.1 with h | h | h
     ·exact absurd h hq
     ·have:=hb h.1;rw[show k+0=k from rfl,h.2]at this;cases this
     ·exact h hd
   | succ i =>
     have:=XA.at hg.2 i o (by omega) (by rw[show k+1+i=k+(i+1)by omega];exact hb) (by simpa using hi) hd;rw[show k+(i+1)=k+1+i by omega];exact this
def Oh {I:Nat} {a:Act} {w:World} {l:List Oper} (m q:Nat) (st:Nat->Bool) (n:Oper) (Ph:Bool->World->Prop) (PP:Nat->Value->World->Prop) (J:P.follows .mixedOrders=true) (K:Jk (l.take m)=true) (L:MK .any (l.take m).length l=true) (t:(l.take m)[q]? = some n) (E:((List.range (l.take m).length).all λj=>(decide (j=q) || st j) || waits .any l j q)=true)
 (M:∀ b w w',Ph b w->Below w.heap.size w w'->Ph b w') (F:∀ j u w w',Below w.heap.size w w'->PP j u w->PP j u w') (A:∀ j u w w',st j=true->PP j u w->PP j u w') (p:Ph false { w with drawn:=w.drawn+1 })
 (B:∀(b:Bool) (c:List Value) (w:World),c.length=(l.take m).length->Ph b w->XA P l.toArray PP q b (λi=>waits .any l q i) (Bq (l.take m) c a) c w 0 (l.take m))
 (C:∀(c:List Value) (w:World),c.length=(l.take m).length->Ph false w->(∀ j,(n.after.toList.any λe=>Region.binds .any e && e.on == j)=true->PP j (c.getD j undef) w)->Region.wanted n (yielded l.toArray (Bq (l.take m) c a).tmps)=true/\Bz P (λv w'=>Ph true w'/\PP q v w') ((execOp (Bq (l.take m) c a).eval n).run P w))
 (D:∀(c:List Value) (w:World),c.length=(l.take m).length->Ph true w->Jc PP w 0 c->wpList P l.toArray Q (l.drop m) (Bq (l.take m) c a) w) :
 (Code.region I l.toArray true).wp P Q a w:=by
 have f:l.take m++l.drop m=l:=DX m l;obtain⟨c,G,N⟩:=Xo (l.take m) a;have H:q<(l.take m).length:=(C9.1 t).1;refine wp_region_any J ?_
 have r:∀ j,j<l.length->(Array.replicate l.length false).getD j true=false:=λj h=>by
  rw[getD_lt (by simpa using h)];simp
 have S:(l.take m).length<=l.length:=by rw[CU];omega
 have:=AE1 (P:=P) (Q:=Q) (md:=.any) (l1:=l.take m) (l2:=l.drop m) (a:=a) (Ph:=Ph) (PP:=PP) (q:=q) (st:=st) K (by rw [f];exact L)
  (by
    rw[f];intro j g p k;have:=VR.1 E j (cO.2 k);simp only[YK,lV,p]at this
    rcases this with(d | d) | d
    ·exact absurd d g
    ·cases d
    ·exact d) H M F A
  (by rw[f];exact λb c w g k i o d O s R=>by have:=(B b c w g k).at i o (by omega) (by rw[FM];exact O) s R;rwa [FM]at this)
  (by
    intro c w g k o d s;rw[t]at d;obtain rfl:=CV d;have:=C c w g k s;rw[<- f]at this
    simpa using this)
  (by rw[f];exact λc w g k d=>D c w g k (Jc.of λj h=>by rw[FM];exact d j (by rw[<- g];exact h))) l.length (Array.replicate l.length false) c
  { w with drawn:=w.drawn+1 } (by rw[Array.size_replicate,<- A8,f]) (by simp) G (by
    have:(Array.replicate l.length false).getD q false=false:=by rw[getD_lt (by simp;omega)];simp
    rw[this];exact p) (λj h x=>by
    rw[r j (by omega)]at x;cases x) (λj _ h=>by
    have:j<l.length:=by rw[<- A8,f]at h;exact h
    exact r j this) (λi o y z=>by
    have:i<l.length:=by rw[f]at y;exact(C9.1 y).1
    rw[r i this]at z;cases z)
 rw[N,f]at this;simpa using this
def Fv{ops:Array Oper}{PP:Nat->Value->World->Prop}{i:Nat}{o:Oper}{A:Act}{w:World}(c:Region.wanted o (yielded ops A.tmps)=true)(h:Bz P (λv w'=>Below w.heap.size w w'/\PP i v w') ((execOp A.eval o).run P w)):Ea P ops PP NV i o A w:=by
 unfold Ea;rw[AC c];exact AQ0 (λ_ _ a=>⟨a.1,a.2,λb d=>by cases d⟩) h
def Gu{ops:Array Oper}{PP:Nat->Value->World->Prop}{i:Nat}{o:Oper}{A:Act}{w:World}(a:Region.wanted o (yielded ops A.tmps)=false)(h:PP i undef w):Ea P ops PP NV i o A w:=by
 unfold Ea;rw[AO (by rw[a];exact RH)];exact h
end
end Go.Proofs.YtjihboddejaelaaGreat
namespace Go.Proofs.YtjihboddejaelaaGreat
open Go.RowKit Go.BigFrame
def VV(lb ob xb:Nat):Value:=.func (.func 182) #[] #[.pointer (some ⟨lb,0,none⟩),.pointer (some ⟨ob,0,none⟩),.pointer (some ⟨xb,0,none⟩)]
structure FB (base:Nat) (w:World) (X:List (Option Nat)) (tb p root lb ob xb:Nat) (most:Int) (v:Value) (dn:List En):Prop where
 tm:TM w X tb p root
 hl:Has w lb 81 #[v]
 ho:Has w ob 3 #[.int .i64 most]
 hx:Has w xb 31 #[.pointer (some ⟨tb,0,none⟩)]
 nl:some lb∉X
 no:some ob∉X
 nx:some xb∉X
 ne:ob≠lb/\xb≠lb/\tb≠lb
 ow:w.ownsRow base 177 2 v dn.length (Oj dn)
 ox:∀ g,v.ownBlock=some g->some g∉X/\g≠lb/\g≠ob/\g≠xb/\g≠tb
section
variable {base:Nat} {w wa w2:World} {X X2:List (Option Nat)} {tb p root lb ob xb:Nat} {most:Int} {v v':Value} {dn:List En}
def FB.turn(h:FB base w X tb p root lb ob xb most v dn)(a:Turn X X2 w w2):FB base w2 X2 tb p root lb ob xb most v dn :=
 ⟨h.tm.turn a,a.has h.hl h.nl,a.has h.ho h.no,a.has h.hx h.nx,a.out h.nl h.hl.lt,a.out h.no h.ho.lt,a.out h.nx h.hx.lt,h.ne,Bo h.ow λg b=>a.block g (h.ow.lt g b).2 (h.ox g b).1,λg b=>⟨a.out (h.ox g b).1 (h.ow.lt g b).2,(h.ox g b).2⟩⟩
def FB.below(h:FB base w X tb p root lb ob xb most v dn)(a:Below w.heap.size w w2):FB base w2 X tb p root lb ob xb most v dn:=h.turn (Turn.below _ a)
def FB.app (h:FB base w X tb p root lb ob xb most v dn) (o:∀ i,some i∈X->i<w.heap.size) (a:Below w.heap.size w wa) {e:En} (m:w2.ownsRow base 177 2 v' (dn.length+1) (Oj dn++[.string (AQ e.1),.string (AQ e.2)])) (c:wa.grownBy w2 v.ownBlock) (n:v'.ownBlock=v.ownBlock\/v'.ownBlock=some wa.heap.size) :
 FB base (w2.setCell ⟨lb,0,none⟩ v') X tb p root lb ob xb most v' (dn++[e])/\Turn (some lb :: v.ownBlock :: X) (some lb :: v'.ownBlock :: X) w (w2.setCell ⟨lb,0,none⟩ v'):=by
 have k:=h.below a;have A:=a.size;have d:∀ g,g<wa.heap.size->v.ownBlock≠some g->w2.heap[g]? = wa.heap[g]? := λg q f=>c.block g q λe=>f e.symm
 have l:∀ g,v'.ownBlock=some g->v.ownBlock=some g\/g=wa.heap.size:=λg e=>by
  rcases n with b | b
  ·exact .inl (b.symm.trans e)
  ·exact .inr (CV (e.symm.trans b))
 have l1:=k.hl.lt;have l2:=k.ho.lt;have r:=k.hx.lt;have s:=k.tm.has.lt
 have j:∀ g,v'.ownBlock=some g->some g∉X/\g≠lb/\g≠ob/\g≠xb/\g≠tb:=λg e=>by
  rcases l g e with b | b
  ·exact h.ox g b
  ·exact⟨λt=>by have:=o g t;omega,by omega,by omega,by omega,by omega⟩
 have u:Has w2 lb 81 #[v]:=(d lb l1 λe=>(k.ox lb e).2.1 rfl).trans k.hl;have x:Has w2 ob 3 #[.int .i64 most]:=(d ob l2 λe=>(k.ox ob e).2.2.1 rfl).trans k.ho;have y:Has w2 xb 31 #[.pointer (some ⟨tb,0,none⟩)]:=(d xb r λe=>(k.ox xb e).2.2.2.1 rfl).trans k.hx;have z:Has w2 tb 111 #[.pointer (some ⟨p,0,none⟩),.int .i64 root]:=(d tb s λe=>(k.ox tb e).2.2.2.2 rfl).trans k.tm.has;refine⟨⟨⟨z.far k.ne.2.2 v',k.tm.out⟩,u.set 0 v',x.far k.ne.1 v',y.far k.ne.2.1 v',k.nl,k.no,k.nx,k.ne, ?_,j⟩,⟨c.os.trans a.os,c.tape.trans a.tape,c.output.trans a.output, ?_,λi hi f=>?_,λi hi=>?_⟩⟩
 ·rw [A8,jV];exact Bo m λg e=>CX _ _ _ _ (j g e).2.1
 ·have:=c.size;simp;omega
 ·rw [BI,BI] at f;refine(CX _ _ _ _ (λe=>f (.inl (by rw[e])))).trans ((d i (by omega) λe=>f (.inr (.inl e.symm))).trans (a.block i hi))
 ·rw [BI,BI] at hi ⊢
  rcases hi with hi | hi | hi
  ·exact .inl (.inl hi)
  ·rcases l i hi.symm with e | e
   ·exact .inl (.inr (.inl e.symm))
   ·exact .inr (by omega)
  ·exact .inl (.inr (.inr hi))
def FB.box(h:FB base w X tb p root lb ob xb most v dn)(a:Below w.heap.size w wa)(b:wa.grownBy w2 v.ownBlock):Has w2 lb 81 #[v]:=by
 have k:=h.below a;exact(b.block lb k.hl.lt λe=>(k.ox lb e.symm).2.1 rfl).trans k.hl
end
def CZ1(base:Nat)(w:World)(X:List (Option Nat))(tb p root lb ob xb:Nat)(most:Int)(v:Value)(dn:List En)(S S0:St)(c k:Nat)(e:En)(a:Ending)(w':World):Prop :=
 ((dn.length:Int)=most/\a = .returned (.bool false)/\Below w.heap.size w w') \/
 (¬(dn.length:Int)=most/\∃ v' X',a = .returned (.bool true)/\PT w' X' p S S0 c k/\FB base w' X' tb p root lb ob xb most v' (dn++[e])/\Turn (some lb :: v.ownBlock :: X) (some lb :: v'.ownBlock :: X') w w')
def OZ(base:Nat)(w:World)(X:List (Option Nat))(p tb root lb ob xb:Nat)(most:Int)(v:Value)(dn:List En)(S S0:St)(c k k2:Nat)(b:Bool)(w':World):Prop :=
 (b=false/\PT w' X p S S0 c k/\FB base w' X tb p root lb ob xb most v dn/\Below w.heap.size w w')\/(b=true/\∃ X',PT w' X' p S S0 c k2/\FB base w' X' tb p root lb ob xb most v dn/\Turn X X' w w')
section
variable {base:Nat} {w w1 w2:World} {X:List (Option Nat)} {p tb root lb ob xb:Nat} {most:Int} {v:Value} {dn:List En} {S S0:St} {c k k2:Nat} {b:Bool}
def OZ.below(h:OZ base w X p tb root lb ob xb most v dn S S0 c k k2 b w1)(f:Below w1.heap.size w1 w2):OZ base w X p tb root lb ob xb most v dn S S0 c k k2 b w2:=by
 rcases h with⟨a,b,d,e⟩ |⟨a,X',b,d,e⟩
 ·exact .inl ⟨a,b.below f,d.below f,e.trans (f.mono e.size)⟩
 ·exact .inr ⟨a,X',b.below f,d.below f,e.next f⟩
def OZ.start(h:PT w X p S S0 c k)(m:FB base w X tb p root lb ob xb most v dn):OZ base w X p tb root lb ob xb most v dn S S0 c k k2 false w.drew :=
 .inl ⟨rfl,h.below ((AU _ _).drew),m.below ((AU _ _).drew),(AU _ _).drew⟩
def OZ.mem(h:OZ base w X p tb root lb ob xb most v dn S S0 c k k2 b w1):∃ X',FB base w1 X' tb p root lb ob xb most v dn/\w.heap.size<=w1.heap.size:=by
 rcases h with⟨a,b,d,e⟩ |⟨a,X',b,d,e⟩
 ·exact⟨X,d,e.size⟩
 ·exact⟨X',d,e.size⟩
end
def uA(K V:ByteArray)(u:Value)(w:World):Prop:=∃ g,u = .slice (some ⟨g,0,none⟩) 1 1/\Has w g 177 #[.string K,.string V]
def SH0(K V:ByteArray):TY (uA K V):=λu w w' a ⟨g,e,h⟩=>⟨g,e,h.Ai a⟩
attribute [local go_sem] Ea Bz Bq Act.put
def AU1 {base:Nat} {w:World} {X:List (Option Nat)} {tb p root lb ob xb c k:Nat} {most:Int} {v:Value} {dn:List En} {S S0:St} {it:It} {u:Ky} {ps:List Nat} (h:PT w X p S S0 c k) (m:FB base w X tb p root lb ob xb most v dn) (hc:c<=60000) (hk:k+ps.length<=800000000) (hn:dn.length<=60000)
 (D:it.k.length<=200) (ac:it.r.length<=300) (hi:I7 S.G it u ps) (hr:∀ x∈ps,0<x/\x<S.q) (T:base<=w.heap.size) :
 Calls Tryz.prog 182 #[.string (Af it),.pointer (some ⟨lb,0,none⟩),.pointer (some ⟨ob,0,none⟩),.pointer (some ⟨xb,0,none⟩)] w (CZ1 base w X tb p root lb ob xb most v dn S S0 c (k+ps.length) (it.k,u)):=by
 obtain⟨A,B,rfl,_⟩:=Bg m.ow;have d0:=m.hl.cell 0;have d1:=m.ho.cell 0;have d2:=m.hx.cell 0;have z0:=m.hl.lt;have z1:=m.ho.lt;have z2:=m.hx.lt;have f0:=m.hl.frozen;have M:=Ac m;have HP:=Ac h;have I:=Ac (λW=>Il it D (by omega) W);have J:=Ac (λW (h:PT W X p S S0 c k) (ht:TM W X tb p root)=>Tj h ht hc hk D hi hr);have BS:=Ac T;have G1:=Ac (show dn.length+1<=maxLen by unfold maxLen;omega);have G2:=Ac (show(dn.length+1)*32<=140737488355328 by omega);obtain⟨n,E⟩:∃ x,AQ it.k=x:=⟨_,rfl⟩;obtain⟨o,F⟩:∃ x,AQ u=x:=⟨_,rfl⟩;obtain⟨CB,U⟩:∃ x,Af it=x:=⟨_,rfl⟩;have V:=Ac (AV E F);rw[U]at I J ⊢;rw[E]at I;rw[F]at J;obtain⟨i0,ad,ae,af,ag⟩:=IP Qu;clear h m hc hk hn D ac hi hr T E F U
 by_cases a:(dn.length:Int)=most
 ·have em:((dn.length:Int) == most)=true:=by rw [OG];exact a
  have K:=Ac a;clear a;go_enter Tryz.func182,Tryz.ntmps182
  go_wp2_with fail
  go_ret;exact .inl ⟨K,rfl,by first | exact AU _ _ | exact PR (AU _ _) _⟩
 ·have em:((dn.length:Int) == most)=false:=by rw [FK];exact a
  have K:=Ac a;clear a;go_enter Tryz.func182,Tryz.ntmps182
  go_upto_region 3 with fail
  refine Oh 8 5 (λj=>decide (j<5)) _ (OZ base w X p tb root lb ob xb most (.slice A dn.length B) dn S S0 c k (k+ps.length)) (QD [λu _=>u = .slice A dn.length B,λu _=>u = .string CB,λu _=>u = .string n,λu _=>u = .pointer (some ⟨tb,0,none⟩),λu _=>u = .string CB,λu _=>u = .string o,λu _=>u = .agg #[.string n,.string o],uA n o]) (by kernel_rfl) (by kernel_rfl) (by kernel_rfl) rfl (by kernel_rfl) ?f ?hst ?hstq ?L ?hops ?hopq ?hend
  case f=>exact λb w1 w2 h N=>h.below N
  case hst=>exact Qj _ ⟨Bh _,Bh _,Bh _,Bh _,Bh _,Bh _,Bh _,SH0 _ _,trivial⟩
  case hstq =>
   intro j u w1 w2 hj h
   match j,PQ hj with
   | 0,_=>exact h
   | 1,_=>exact h
   | 2,_=>exact h
   | 3,_=>exact h
   | 4,_=>exact h
  case L=>exact OZ.start HP M
  case hops =>
   intro bb s wx g f;obtain⟨u0,u1,u2,u3,u4,u5,u6,u7,rfl⟩:=dU s g;clear g;simp only[Bq,Act.put,DY,DZ,EP,EF,EH];refine⟨.inr (.inr λh=>?_),.inr (.inr λh=>?_),.inr (.inr λh=>?_),.inr (.inr λh=>?_),.inr (.inr λh=>?_),.inl rfl,.inr (.inr λh=>?_),.inr (.inr λh=>?_),trivial⟩
   ·clear h;obtain⟨X',t,hz⟩:=f.mem;have c0:=t.hl.cell 0;have cz:=t.hl.lt;refine Ae rfl ?_;go_simp;exact⟨AU _ _,rfl⟩
   ·(clear h;refine Ae rfl ?_;go_simp;exact⟨AU _ _,rfl⟩)
   ·obtain rfl:=h 1 rfl;clear h;refine Ae rfl ?_;go_simp;refine(I _).mono ?_;rintro e w1 ⟨rfl,rfl⟩;exact⟨_,rfl,AU _ _,rfl⟩
   ·clear h;obtain⟨X',t,hz⟩:=f.mem;have c0:=t.hx.cell 0;have cz:=t.hx.lt;refine Ae rfl ?_;go_simp;exact⟨AU _ _,rfl⟩
   ·(clear h;refine Ae rfl ?_;go_simp;exact⟨AU _ _,rfl⟩)
   ·obtain rfl:=h 2 rfl;obtain rfl:=h 5 rfl
    (clear h;refine Ae rfl ?_;go_simp;exact⟨AU _ _,rfl⟩)
   ·obtain rfl:=h 6 rfl;clear h;refine Ae rfl ?_;go_simp;exact⟨Ag _ _,_,rfl,Has.new _ _ _⟩
  case hopq =>
   intro s wx g f h;obtain⟨u0,u1,u2,u3,u4,u5,u6,u7,rfl⟩:=dU s g;clear g;simp only[Bq,Act.put,DY,DZ,EP,EF,EH];refine⟨rfl, ?_⟩;obtain rfl:=h 3 rfl;obtain rfl:=h 4 rfl;clear h
   rcases f with⟨_,hp,a,N⟩ |⟨O,_⟩
   ·go_simp;refine(J _ hp a.tm).mono ?_;rintro en w4 ⟨rfl,P,z,l⟩;exact⟨_,rfl,.inr ⟨rfl,P,z,a.turn l,(Turn.below _ N).trans l⟩,rfl⟩
   ·cases O
  case hend =>
  intro s wx g f;obtain⟨u0,u1,u2,u3,u4,u5,u6,u7,rfl⟩:=dU s g;clear g;intro ab;obtain⟨L,h1,h2,h3,h4,h5,h6,h7,_⟩:=ab;obtain rfl:=L;obtain rfl:=h6;obtain⟨gb,rfl,Y⟩:=h7
  obtain⟨P,z,Z,l⟩:∃ X',PT wx X' p S S0 c (k+ps.length)/\FB base wx X' tb p root lb ob xb most (.slice A dn.length B) dn/\Turn X X' w wx:=by
   rcases f with⟨O,_⟩ |⟨_,X',b,d,e⟩
   ·cases O
   ·exact⟨X',b,d,e⟩
  have P4:=Ac z;have y:=Ac Z;have T4:=Ac l;have ah:=Ac Y;simp only[Bq,Act.put,DY,DZ,IC,GV,EP,EF,EH];clear h1 h2 h3 h4 h5 f z Z l Y d0 d1 d2 z0 z1 z2 f0
  go_wp2_with (at_builtin;(refine Aq _ rfl (.tmp 10) (.tmp 17) 81 81 rfl base 177 i0 _ 2 32 FZ ad ae af ag Di (by decide) (.slice A dn.length B) dn.length (Oj dn) rfl y.ow (.slice (some ⟨gb,0,none⟩) 1 1) 1 [.string n,.string o] rfl (IW _ FZ ⟨gb,0,none⟩ 1 1 [.string n,.string o] rfl (JQ ah) (by simp[Value.oneCell'])) G1 G2 (BN BS T4.size) ?_);intro v7 w7 C H _ R;obtain⟨A7,c7,rfl,_⟩:=Bg C;have O7:=Ac C;have aa:=Ac H;have ai:=Ac R;have Q:=Ac (y.box (AU _ _) H);have x0:=Q.cell 0;have xf:=Q.frozen 0;have xz:=Q.lt;clear C H R)
  go_ret;have o7:=O7.out;rw[<- V.1,<- V.2]at o7;obtain⟨q1,q2⟩:=y.app (e:=(it.k,u)) (λi hi=>P4.lt i hi) (AU _ _) o7 aa ai;refine .inr ⟨K,_,P,rfl, ?_,q1,(T4.cons _).cons _ |>.trans q2⟩;exact((P4.below (AU _ _)).grown aa λi e=>(y.ox i e).1).set y.nl 0 _
end Go.Proofs.YtjihboddejaelaaGreat
namespace Go.Proofs.YtjihboddejaelaaGreat
open Go.RowKit Go.BigFrame
structure NJ (w wr:World) (Y Y':List (Option Nat)) (n kd lk m cp:Nat) (A:Option Addr) (cs:List ByteArray):Prop where
 tu:Turn Y Y' w wr
 nb:Has wr w.heap.size 116 #[.int .i64 n,.int .i64 kd,.int .i64 lk,.slice A m cp]
 nx:some w.heap.size∉Y'
 ss:SS wr A m cs
 rx:∀ a,A=some a->some a.block∉Y'/\a.block<wr.heap.size
section
variable {w wr w2:World} {Y Y' Y2:List (Option Nat)} {n kd lk m cp:Nat} {A:Option Addr} {cs:List ByteArray}
def NJ.turn(h:NJ w wr Y Y' n kd lk m cp A cs)(b:Turn Y' Y2 wr w2):NJ w w2 Y Y2 n kd lk m cp A cs :=
 ⟨h.tu.trans b,b.has h.nb h.nx,b.out h.nx h.nb.lt,h.ss.stay b.size λa e=>b.block _ (h.rx a e).2 (h.rx a e).1,λa e=>⟨b.out (h.rx a e).1 (h.rx a e).2,DD (h.rx a e).2 b.size⟩⟩
def NJ.below(h:NJ w wr Y Y' n kd lk m cp A cs)(a:Below wr.heap.size wr w2):NJ w w2 Y Y' n kd lk m cp A cs:=h.turn (Turn.below _ a)
end
def JL1(base:Nat)(w:World)(X:List (Option Nat))(p tb root lb ob xb c k:Nat)(most:Int)(fr tk:Ky)(S S0:St)(a:Value)(d T:List En)(N:Nat)(e:Ending)(w':World):Prop :=
 ∃(b:Bool) (dn:List En) (v:Value) (X':List (Option Nat)),e = .returned (.bool b)/\PT w' X' p S S0 c k/\FB base w' X' tb p root lb ob xb most v dn/\Turn (some lb :: a.ownBlock :: X) (some lb :: v.ownBlock :: X') w w'/\((b=true/\FH fr tk most d dn=T)\/(b=false/\dn=T))/\dn.length<=N
def YV (base tb p root lb ob xb:Nat) (most:Int) (fr tk:Ky) (d:Nat) (S S0:St):Prop:=∀ (w:World) (X:List (Option Nat)) (c k n cp:Nat) (lo hi:Ky) (g:List En×Nat) (A:Option Addr) (pg:Pg) (v:Value) (dn b:List En),
 PT w X p S S0 c (k+1)->FB base w X tb p root lb ob xb most v dn->c<=60000->k+g.2<=700000000->base<=w.heap.size->FY S.G S.q d n lo hi g->S.G n=pg->SS w A pg.2.2.length pg.2.2->(∀ a,A=some a->some a.block∉some lb :: v.ownBlock :: X/\a.block<w.heap.size)->(∀ e∈b,ltK e.1 lo)->dn.length+g.1.length<=60000 ->
 Calls Tryz.prog 181 #[.pointer (some ⟨tb,0,none⟩),.agg #[.int .i64 n,.int .i64 pg.1,.int .i64 pg.2.1,.slice A pg.2.2.length cp],.string (AQ fr),.string (AQ tk),VV lb ob xb] w (JL1 base w X p tb root lb ob xb c (k+g.2) most fr tk S S0 v b (FH fr tk most (g.1.reverse++b) dn) (dn.length+g.1.length))
def Ik(tk:Ky)(its:List It):Nat:=if tk=[]then its.length else cnt tk false its
def tJ(tk:Ky)(its:List It):Ik tk its<=its.length:=by
 unfold Ik;split
 ·exact AY _
 ·exact cnt_le _ _ _
def Kz.kH {G:Nat->Pg}:∀ {l:List It} {E:List En} {P:List (List Nat)} {j:Nat},Kz G l E P->(hj:j<l.length)->∃ u ps,E[j]? = some (l[j].k,u)/\P[j]? = some ps/\I7 G l[j] u ps
 | [],_,_,_,_,hj=>absurd hj (OM _)
 | i :: l,[],[],_,h,_=>h.elim
 | i :: l,[],_ :: _,_,h,_=>h.elim
 | i :: l,_ :: _,[],_,h,_=>h.elim
 | i :: l,e :: E,ps :: P,0,h,hj=>⟨e.2,ps,by show some e=some (i.k,e.2);rw[h.1],rfl,h.2.1⟩
 | i :: l,e :: E,ps :: P,j+1,h,hj=>by
   obtain⟨v,a,b,c,d⟩:=Kz.kH (j:=j) h.2.2 (by simpa using hj);exact⟨v,a,by simpa using b,by simpa using c,d⟩
def YI0{G:Nat->Pg}{its:List It}{E:List En}{P:List (List Nat)}(h:Kz G its E P)(l:NI its){fr tk:Ky}{most:Int}(d dn:List En):FH fr tk most (E.reverse++d) dn=FH fr tk most ((E.take (Ik tk its)).reverse++d) dn:=by
 unfold Ik
 by_cases b:tk=[]
 ·rw[AC b,EE (by rw[h.len.1];exact AY _)]
 ·rw [AO b]
  conv=>lhs;rw[<- DX (cnt tk false its) E]
  rw[mY,BU]
  refine iC λe f=>⟨b,λc=>?_⟩
  rw[List.mem_reverse]at f;obtain⟨j,a⟩:=dD f;rw[IX]at a
  have i:cnt tk false its+j<its.length:=by rw[<- h.len.1];exact(C9.1 a).1
  obtain⟨u,ps,m,_,_⟩:=h.kH i;rw[m]at a;have n:(its[cnt tk false its+j].k,u)=e:=CV a
  have g:=(Qy (key:=tk) (past:=false) l).2 its[cnt tk false its+j] (by
   rw[Aa4]
   exact⟨j,by omega,by congr 1⟩)
  rw[<- n]at c;rw[Uy.2 c]at g;cases g
def KR1{tk:Ky}{its:List It}(c:NI its){j:Nat}(a:j<Ik tk its)(d:j<its.length):tk=[]\/ltK its[j].k tk:=by
 unfold Ik at a
 by_cases b:tk=[]
 ·exact .inl b
 ·rw [AO b] at a;refine .inr (Uy.1 ((Qy (key:=tk) (past:=false) c).1 its[j] ?_));rw[nC];exact⟨j,by omega,rfl⟩
def LB1{fr tk:Ky}{most:Int}{e:En}{R dn:List En}(h:tk=[]\/ltK e.1 tk):FH fr tk most (e :: R) dn=if ltK e.1 fr then dn else if(dn.length:Int)=most then dn else FH fr tk most R (dn++[e]):=by
 rw[FH,AO (λk=>h.elim (λa=>k.1 a) (λa=>k.2 a))]
def RelB(base:Nat)(w:World)(X:List (Option Nat))(p tb root lb ob xb c k n lk cp:Nat)(A:Option Addr)(most:Int)(fr tk:Ky)(S S0:St)(b:Value)(its:List It)(E:List En)(P:List (List Nat))(d T:List En)(N:Nat)(g:Nat)(a:Value)(wr:World):Prop :=
 ∃(j:Nat) (dn:List En) (v:Value) (X':List (Option Nat)),a = .int .i64 ((j:Int)-1)/\g=j/\j<=Ik tk its/\PT wr X' p S S0 c (k+1+(P.drop j).flatten.length)/\FB base wr X' tb p root lb ob xb most v dn/\NJ w wr (some lb :: b.ownBlock :: X) (some lb :: v.ownBlock :: X') n 1 lk its.length cp A (its.map Af)/\FH fr tk most ((E.take j).reverse++d) dn=T/\dn.length+j<=N
def IB1{base tb p root lb ob xb:Nat}{most:Int}{fr tk:Ky}{S S0:St}:YV base tb p root lb ob xb most fr tk 0 S S0:=by
 intro w X c k n cp lo hi g A pg H U Rr h m hc hk a1 bd hG ab ac bg ai;obtain⟨lk,its,P,h1,I,h3,h4,h5,h6,h7⟩:=bd;have r:=h.ok.pg n h6.2;rw[h1]at hG;subst hG;have h8:=Yq r;rw[h1]at h8
 have h9:its.length<=253:=by rw[<- BZ (f:=Af)];exact h8
 have e9:(its.map Af).length=its.length:=BZ _;dsimp only at ab ac ⊢;rw[e9]at ab ⊢;rw[show((1:Nat):Int)=1 from rfl];have aj:=I.len.1
 have ah:IU its:=λi hi=>by
  obtain⟨u,ps,J,_⟩:=I.mem i hi;have a2:=(h3 i hi).1;have q:=J.sz a2.2;unfold CO at q;exact⟨a2.2,by omega⟩
 have s:=YI0 (fr:=fr) (tk:=tk) (most:=most) I h4 Rr U;rw[s];obtain⟨T,b⟩:∃ T,FH fr tk most ((g.1.take (Ik tk its)).reverse++Rr) U=T:=⟨_,rfl⟩;rw[b];obtain⟨E,hE⟩:∃ E,g.1=E:=⟨_,rfl⟩;rw[hE]at I aj b ai ⊢;rw[h7]at hk ⊢;obtain⟨NP,ak⟩:∃ n,P.flatten.length=n:=⟨_,rfl⟩;rw[ak]at hk ⊢;have a3:=Ac ak;obtain⟨K,B⟩:∃ j,Ik tk its=j:=⟨_,rfl⟩;have a0:=tJ tk its;have L:=Ag w (.cells #[.int .i64 n,.int .i64 1,.int .i64 lk,.slice A its.length cp] 116);have NB:=Has.new w 116 #[.int .i64 n,.int .i64 1,.int .i64 lk,.slice A its.length cp]
 have a4:some w.heap.size∉some lb :: H.ownBlock :: X:=λd=>by
  rcases BI.1 d with e | d
  ·have:=m.hl.lt;have:=CV e;omega
  ·rcases BI.1 d with e | d
   ·have:=(m.ow.lt _ e.symm).2;omega
   ·have:=h.lt _ d;omega
 have D0:=Ac (show NJ w (w.alloc (.cells #[.int .i64 n,.int .i64 1,.int .i64 lk,.slice A its.length cp] 116)) (some lb :: H.ownBlock :: X) (some lb :: H.ownBlock :: X) n 1 lk its.length cp A (its.map Af) from
  ⟨Turn.below _ L,NB,a4,ab.keep L,λa e=>⟨(ac a e).1,DD (ac a e).2 L.size⟩⟩)
 have P0:=Ac (h.below L);have M0:=Ac (m.below L);have M:=Ac (AV I (AV h3 (AV h4 (AV h5 (AV aj ah)))));have HC:=Ac (AV hc (AV hk (AV a1 (AV ai h9))));have HT:=Ac b;have HJ:=Ac (AV B a0);have FD:=Ac (λW (h:SS W A its.length (its.map Af))=>wP n lk its.length cp A its tk W h ah h4 (by omega))
 have al:(AQ fr).toList=fr:=by rw[EL,Cb]
 have am:(AQ tk).toList=tk:=by rw[EL,Cb]
 obtain⟨F,hF⟩:∃ x,AQ fr=x:=⟨_,rfl⟩;obtain⟨TK,a5⟩:∃ x,AQ tk=x:=⟨_,rfl⟩;rw[hF]at al ⊢;rw[a5]at am FD ⊢;have a6:=Ac al;have a7:=Ac am
 have z9:(its.length:Int)<=253:=by omega
 unfold VV;clear ak h m hc hk a1 h1 I h3 h4 h5 h6 h7 h8 h9 r ab ac ai aj ah s b hE a4 L NB hF a5 al am a0 e9;go_enter Tryz.func181,Tryz.ntmps181;have N0:=D0.nb;obtain⟨y0,y1,y2,y3⟩:=N0.cells4;have yz:=N0.lt
 go_upto_region 2 with fail
 generalize w.alloc (.cells #[.int .i64 n,.int .i64 1,.int .i64 lk,.slice A its.length cp] 116)=W0 at *
 go_cut [17]from 16 to 17 (λbe wx=>be = .bool (!TK.toList.isEmpty)/\wx=W0)
 case first =>
  go_wp2_with fail
  go_meet;exact⟨rfl,rfl⟩
 case rest =>
 obtain⟨rfl,rfl⟩:=hcut;rename_i ha;refine ha _ _ ?_;clear ha
 go_cut [11]from 17 to 20 (λan wx=>an = .int .i64 (K:Nat)/\Below wc.heap.size wc wx)
 case first =>
  by_cases ht:tk=[]
  ·have t1:TK.toList.isEmpty=true:=by rw [a7.out,ht];rfl
   have ej:Ik tk its=its.length:=by unfold Ik;rw[AC ht]
   have EJ:=Ac (B.symm.trans ej);rw[t1];clear ej B
   go_wp2_with fail
   go_meet;exact⟨by rw[EJ.out],AU _ _⟩
  ·have t1:TK.toList.isEmpty=false:=by rw [a7.out];exact dC.2 ht
   have ej:Ik tk its=cnt tk false its:=by unfold Ik;rw[AO ht]
   have EJ:=Ac (B.symm.trans ej);rw[t1];clear ej B
   go_wp2_with (first |(go_at_call 131;refine(FD _ D0.ss).mono ?_;rintro o w1 ⟨rfl,l⟩;have C:=Ac l;clear l))
   go_meet;exact⟨by rw[EJ.out],C⟩
 case rest =>
 obtain⟨rfl,l⟩:=hcut;have P1:=Ac (P0.below l);have M1:=Ac (M0.below l);have D1:=Ac (D0.below l);clear P0 M0 D0 l y0 y1 y2 y3 yz N0 B;have LY:=Ac (λW=>Pz n lk (.slice A its.length cp) W);have t:=D1.nb;obtain⟨y0,y1,y2,y3⟩:=t.cells4;have yz:=t.lt
 have bh:(K:Int)<=253:=by have:=HJ.out;omega
 clear t
 go_upto_region 5 with(first |(go_at_call 130;refine(LY _).mono ?_;rintro o w1 ⟨rfl,l⟩;have C:=Ac l;clear l))
 have P2:=Ac (P1.below C);have M2:=Ac (M1.below C);have D2:=Ac (D1.below C);clear P1 M1 D1 C y0 y1 y2 y3 yz LY;generalize w1=W2 at *
 have az:=Ac (show RelB base w X p tb root lb ob xb c k n lk cp A most fr tk S S0 H its E P Rr T (U.length+E.length) K (.int .i64 ((K:Int)-1)) W2 from
  ⟨K,U,H,X,rfl,rfl,by rw[HJ.1];exact AY _,P2.more (AY _) (SY _ _),M2,D2,by rw[<- HJ.1];exact HT,by have:=HJ.out;have:=M.2.2.2.2.1;omega⟩)
 clear P2 M2 D2
 go_wp2_with fail
 go_loopg [11] K (λgg an wr=>RelB base w X p tb root lb ob xb c k n lk cp A most fr tk S S0 H its E P Rr T (U.length+E.length) gg an wr)
 case atStart=>exact az
 case round =>
  clear az;obtain⟨j,dn,v,X',rfl,hg,hj,r,d,y,s,hN⟩:=hrel;have HP:=Ac r;have HM:=Ac d;have HD:=Ac y;have bf:=Ac s;have N:=Ac (AV hj (AV hN hg));by_cases h0:j=0
  ·subst h0
   have z0:¬(0:Int)<=((0:Nat):Int)-1:=by omega
   clear r d y s hN hj hg
   go_wp2_with fail
   go_ret;refine⟨true,dn,v,X',rfl,HP.more (AY _) (by rw[GV,a3.out];omega),HM,HD.tu,.inl ⟨rfl,by have:=bf.out;rw[DZ]at this;exact this⟩,by have:=N.out;omega⟩
  ·obtain ⟨i,rfl⟩:∃ i,j=i+1:=⟨j-1,by omega⟩
   have ei:(((i+1:Nat):Int)-1)=(i:Int):=by omega
   rw[ei]
   have ad:i<its.length:=by have:=HJ.out;omega
   have z0:(0:Int)<=(i:Int):=by omega
   have z1:(i:Int)<=253:=by omega
   obtain⟨u,ps,J,ae,V⟩:=M.1.kH ad;have aa:=KR1 (tk:=tk) M.2.2.1 (show i<Ik tk its by omega) ad;obtain⟨it,af⟩:∃ it,its[i]=it:=⟨_,rfl⟩;have D:=(M.2.1 its[i] (EI _)).1;have ao:=M.2.2.2.2.2 its[i] (EI _);rw[af]at J V aa D ao;have ap:=V.sz D.2;unfold CO at ap
   have aq:(its.map Af)[i]? = some (Af it):=by rw[GH,DK ad,af];rfl
   obtain⟨gr,off,ar,gl,lc⟩:=y.ss.2 (by omega);have a8:=lc i _ aq;have z:=Ac (λW=>Il it D.2 (by omega) W)
   have au:E.take (i+1)=E.take i++[(it.k,u)]:=by
    obtain⟨hl,he⟩:=C9.1 J;rw[JS hl,he]
   have b:FH fr tk most ((it.k,u) :: ((E.take i).reverse++Rr)) dn=T:=by rw[<- s,au,mY];rfl
   rw[LB1 aa]at b;have bi:=Ac b
   have av:(P.drop i).flatten.length=ps.length+(P.drop (i+1)).flatten.length:=by
    obtain⟨hl,he⟩:=C9.1 ae;rw[FQ hl,dG,A8,he]
   have aw:(P.drop i).flatten.length<=NP:=by
    rw[<- a3.out]
    conv=>rhs;rw[<- DX i P]
    rw[PZ,A8];omega
   have ax:=Ac (AV av aw);have O:=Ac (AU1 r d HC.1 (by have:=HC.out;omega) (by have:=HC.out;omega) D.2 (by omega) V (λx hx=>M.2.2.2.1 ps (F5 ae) x hx) (by have:=HC.out;have:=y.tu.size;omega))
   have ag:(AQ it.k).toList=it.k:=by rw[EL,Cb]
   have t:=y.nb;obtain⟨y0,y1,y2,y3⟩:=t.cells4;have yz:=t.lt;subst ar;have bj:=Ac ad;by_cases G:ltK it.k fr
   ·have b1:Op.bytesLess (AQ it.k).toList F.toList=true:=by rw [ag,a6.out];exact G
    have Q:=Ac (b.symm.trans (AC G));obtain⟨KE,Y⟩:∃ x,AQ it.k=x:=⟨_,rfl⟩;obtain⟨CB,Z⟩:∃ x,Af it=x:=⟨_,rfl⟩;rw[Y]at z b1;rw[Z]at z a8 O;clear r d y s hN hj hg J ae V aa D ao ap aq lc au b av aw ag t G Y Z af ei
    go_wp2_with (first |(go_at_call 51;refine(z _).mono ?_;rintro e w1 ⟨rfl,rfl⟩))
    go_ret;exact⟨false,dn,v,X',rfl,HP.more (AY _) (by have:=ax.out;omega),HM,HD.tu,.inr ⟨rfl,Q.symm⟩,by have:=N.out;omega⟩
   ·have b1:Op.bytesLess (AQ it.k).toList F.toList=false:=by rw [ag,a6.out];exact dO.2 G
    have Q:=Ac ((AO G).symm.trans b);obtain⟨KE,Y⟩:∃ x,AQ it.k=x:=⟨_,rfl⟩;obtain⟨CB,Z⟩:∃ x,Af it=x:=⟨_,rfl⟩;rw[Y]at z b1;rw[Z]at z a8 O;clear r d y s hN hj hg J ae V aa D ao ap aq lc au b av aw ag t G Y Z af ei;by_cases R:(dn.length:Int)=most
    ·have YF:=Ac (O.mono (R':=λo w'=>o = .returned (.bool false)/\Below wr.heap.size wr w') (by
      rintro o w' (⟨_,e1,e2⟩ |⟨e0,_⟩)
      ·exact⟨e1,e2⟩
      ·exact absurd R e0))
     have TG:=Ac ((AC R).symm.trans Q);clear O R Q
     go_wp2_with (first
      |(go_at_call 51;refine(z _).mono ?_;rintro e w1 ⟨rfl,rfl⟩)
      |(go_at_call 182;(with_reducible refine YF.out.mono ?_);rintro o w5 ⟨rfl,a9⟩;have ay:=Ac a9;clear a9))
     go_ret;exact⟨false,dn,v,X',rfl,(HP.below ay).more (AY _) (by have:=ax.out;omega),HM.below ay,(HD.below ay).tu,.inr ⟨rfl,TG⟩,by have:=N.out;omega⟩
    ·have YF:=Ac (O.mono (R':=λo w'=>∃ v' X2,o = .returned (.bool true)/\PT w' X2 p S S0 c (k+1+(P.drop (i+1)).flatten.length+ps.length)/\FB base w' X2 tb p root lb ob xb most v' (dn++[(it.k,u)])/\Turn (some lb :: v.ownBlock :: X') (some lb :: v'.ownBlock :: X2) wr w') (by
      rintro o w' (⟨e0,_⟩ |⟨_,h⟩)
      ·exact absurd e0 R
      ·exact h))
     have TG:=Ac ((AO R).symm.trans Q);clear O R Q
     go_wp2_with (first
      |(go_at_call 51;refine(z _).mono ?_;rintro e w1 ⟨rfl,rfl⟩)
      |(go_at_call 182;(with_reducible refine YF.out.mono ?_);rintro o w5 ⟨v5,X5,rfl,ba,bb,bc⟩;have P5:=Ac ba;have M5:=Ac bb;have T5:=Ac bc;clear ba bb bc))
     go_roundg i
     case rel =>
      exact⟨i,dn++[(it.k,u)],v5,X5,rfl,rfl,by have:=N.out;omega,P5.more (AY _) (by have:=ax.out;omega),M5,HD.turn T5,TG,by rw[A8,JB];have:=N.out;omega⟩
     case measure=>have:=N.out;omega
def FY.pos{G:Nat->Pg}{q d n:Nat}{lo hi:Ky}{g:List En×Nat}(h:FY G q d n lo hi g):(0<n/\n<q)/\((G n).1=1\/(G n).1=2)/\1<=g.2:=by
 cases d with
 | zero=>obtain⟨lk,its,P,a,e,f,i,j,b,c⟩:=h;exact⟨b,.inl (by rw[a]),by omega⟩
 | succ d=>obtain⟨its,gs,a,e,f,i,j,b,c,l,k⟩:=h;exact⟨c,.inr (by rw[a]),by rw[k];show 1<=1+_;omega⟩
def FK1{α:Type}(l:List α)(d:α)(h:0<l.length):l.headD d=l[0]:=by
 cases l with
 | nil=>cases h
 | cons a r=>rfl
section
variable {G:Nat->Pg} {q d:Nat} {its:List It} {gs:List (List En×Nat)} {lo hi:Ky}
def vG(a:Ru (FY G q d) hi (its.map JM) gs){i:Nat}(c:i<its.length):Ru (FY G q d) its[i].k ((its.map JM).take i) (gs.take i)/\Ru (FY G q d) hi ((its.map JM).drop i) (gs.drop i):=by
 have f:=a.len;rw[BZ]at f;rw[<- DX i (its.map JM)]at a;obtain⟨g,h,e,b,j⟩:=a.split;have l1:=b.len;rw[CU,BZ,MC (by omega)]at l1
 have l:gs.take i=g:=by rw[e,TC (by omega),EE (by omega)]
 have m:gs.drop i=h:=by rw[e,VP (by omega),IY (by omega)];rfl
 rw[l,m];refine⟨?_,j⟩
 have n:QF ((its.map JM).drop i) hi=its[i].k:=by
  rw[<- MW,FQ c];rfl
 rw[n]at b;exact b
def PJ1 (o:Ru (FY G q d) hi (its.map JM) gs) (m:its.Pairwise λa b=>ltK a.k b.k) (s:(its.headD ⟨[],[]⟩).k=lo) (v:∀ i∈its.drop 1,EU lo i.k/\(hi=[]\/ltK i.k hi)) {i:Nat} (f:i<its.length) {p:List En} (w:∀ e∈p,ltK e.1 lo) :
 ∃ g x,gs[i]? = some g/\FY G q d (Gi its[i].r) its[i].k x g/\(∀ e∈(Ej (gs.take i)).1.reverse++p,ltK e.1 its[i].k)/\(Ej (gs.take (i+1))).1=(Ej (gs.take i)).1++g.1/\(Ej (gs.drop i)).2=g.2+(Ej (gs.drop (i+1))).2/\(Ej (gs.drop i)).2<=(Ej gs).2:=by
 obtain⟨y,k2⟩:=vG o f;have A:=o.len;rw[BZ]at A
 have l:i<gs.length:=by omega
 rw[<- MW,FQ f,DW,FQ l]at k2
 have t:EU lo its[i].k:=by
  cases i with
  | zero=>rw[<- s,FK1 its _ f];exact Px _
  | succ i =>
    refine(v its[i+1] ?_).1;rw[Aa4];exact⟨i,by omega,by congr 1;omega⟩
 refine⟨gs[i],_,DK l,k2.1,λe c=>?_, ?_, ?_, ?_⟩
 ·rcases BO.1 c with c | c
  ·rw [List.mem_reverse] at c;have B:=ZV (lo:=[]) (λ_ _ _ _ h=>FY.dV h) y (((PX.2 m:(its.map JM).Pairwise λa b=>ltK a.2 b.2)).sublist (List.take_sublist _ _)) (λz _=>ZE _) (λz C=>?_) e c
   ·rcases B.2 with n | n
    ·exfalso
     cases i with
     | zero=>simp[Ej]at c
     | succ i =>
       have:=XY.1 m i (i+1) (by omega) f (by omega);rw[n]at this;exact Jt this
    ·exact n
   ·have u:=JV C;obtain⟨j,D,e⟩:=nC.1 u;rw[BZ]at D;rw[List.getElem_map]at e;subst e;exact .inr (XY.1 m j i (by omega) f (by omega))
  ·exact Ho (w e c) t
 ·rw [JS l,Uo];show _++(gs[i].1++[])=_;rw[GI]
 ·rw[FQ l];rfl
 ·conv=>rhs;rw [<- DX i gs,Uo]
  exact Nat.le_add_left _ _
def GJ1 (o:Ru (FY G q d) hi (its.map JM) gs) (v:its≠[]) (p:its.Pairwise λa b=>ltK a.k b.k) (w:∀ i∈its.drop 1,EU lo i.k/\(hi=[]\/ltK i.k hi)) {fr tk:Ky} {most:Int} (r dn:List En) :
 FH fr tk most ((Ej gs).1.reverse++r) dn=FH fr tk most ((Ej (gs.take (Ik tk (its.drop 1)+1))).1.reverse++r) dn:=by
 have x:=o.len;rw[BZ]at x;have B:0<its.length:=QY.2 v;unfold Ik
 by_cases g:tk=[]
 ·rw[AC g,EE (by rw[DJ];omega)]
 ·rw [AO g];obtain⟨j,y⟩:∃ j,cnt tk false (its.drop 1)=j:=⟨_,rfl⟩;have m:=(Qy (key:=tk) (past:=false) (p.sublist (dK 1 its))).2;have n:=cnt_le tk false (its.drop 1);rw[y]at m n ⊢;rw[DJ]at n
  conv=>lhs;rw[<- DX (j+1) gs,Uo]
  rw[mY,BU]
  refine iC λe s=>⟨g, ?_⟩
  rw[List.mem_reverse]at s
  have k2:Ru (FY G q d) hi ((its.map JM).drop (j+1)) (gs.drop (j+1)):=by
   by_cases u:j+1<its.length
   ·exact(vG o u).2
   ·rw[IY (by rw[BZ];omega),IY (by omega)];trivial
  have l:∀ z∈(its.map JM).drop (j+1),∃ i∈its.drop 1,JM i=z/\ahead tk false i=false:=λz c=>by
   rw[<- MW]at c;obtain⟨i,f,e⟩:=DI.1 c;rw[show j+1=1+j by omega,<- List.drop_drop]at f;exact⟨i,JV f,e,m i f⟩
  have A:=ZV (lo:=tk) (λ_ _ _ _ h=>FY.dV h) k2 ((PX.2 p:(its.map JM).Pairwise λa b=>ltK a.2 b.2).sublist (dK _ _)) (λz c=>by
   obtain⟨i,_,e,t⟩:=l z c;subst e
   exact Md.2 λh=>by rw[Uy.2 h]at t;cases t) (λz c=>by
   obtain⟨i,f,e,_⟩:=l z (JV c);subst e
   exact(w i f).2) e s
  exact Md.1 A.1
end
def TG0 (n l m c:Nat) (A:Option Addr) (its:List It) (key:Ky) (w:World) (h:SS w A m (its.map Af)) (a:IU its) (b:NI its) (d:m<=1000000) :
 Calls Tryz.prog 131 #[.agg #[.int .i64 n,.int .i64 2,.int .i64 l,.slice A m c],.string (AQ key),.bool false] w λe w'=>e = .returned (.int .i64 (cnt key false its))/\Below w.heap.size w w':=jF n 2 l m c A its key false w h a b d
def vN(base:Nat)(w:World)(X:List (Option Nat))(p tb root lb ob xb c k n lk m cp:Nat)(A:Option Addr)(cs:List ByteArray)(most:Int)(fr tk:Ky)(S S0:St)(b:Value)(gs:List (List En×Nat))(d T:List En)(N e:Nat)(g:Nat)(a:Value)(wr:World):Prop :=
 ∃(j:Nat) (dn:List En) (v:Value) (X':List (Option Nat)),a = .int .i64 ((j:Int)-1)/\g=j/\j<=e/\PT wr X' p S S0 c (k+1+(Ej (gs.drop j)).2)/\FB base wr X' tb p root lb ob xb most v dn/\NJ w wr (some lb :: b.ownBlock :: X) (some lb :: v.ownBlock :: X') n 2 lk m cp A cs/\FH fr tk most ((Ej (gs.take j)).1.reverse++d) dn=T/\dn.length+(Ej (gs.take j)).1.length<=N
def EO1{base tb p root lb ob xb d:Nat}{most:Int}{fr tk:Ky}{S S0:St}(IH:YV base tb p root lb ob xb most fr tk d S S0):YV base tb p root lb ob xb most fr tk (d+1) S S0:=by
 intro w X c k n cp lo hi g A pg N K J h m hc hk af bw hG ag ah bx bc;obtain⟨its,gs,h1,h2,h3,h4,h5,h6,h7,h8,h9⟩:=bw;have O:=h.ok.pg n h7.2;rw[h1]at hG;subst hG;have D:=Yq O;rw[h1]at D;have C:=GJ1 h8 h2 h6 h5 (fr:=fr) (tk:=tk) (most:=most) J K
 have ap:g.1=(Ej gs).1:=by rw[h9]
 have bd:g.2=1+(Ej gs).2:=by rw[h9]
 rw[<- ap]at C;rw[C];rw[bd]at hk ⊢;obtain⟨T,E⟩:∃ T,FH fr tk most ((Ej (gs.take (Ik tk (its.drop 1)+1))).1.reverse++J) K=T:=⟨_,rfl⟩;rw[E];have aq:=h8.len;rw[BZ]at aq;have ba:IU (its.drop 1):=λi hi=>UQ (λy hy=>⟨(h4 y hy).1,(h4 y hy).2.1⟩) i (JV hi);have bb:NI (its.drop 1):=h6.sublist (dK 1 its);have ae:=tJ tk (its.drop 1)
 have au:K.length+(Ej (gs.take (Ik tk (its.drop 1)+1))).1.length<=K.length+g.1.length:=by
  rw[ap]
  conv=>rhs;rw[<- DX (Ik tk (its.drop 1)+1) gs,Uo]
  rw[A8];omega
 have av:(Ej (gs.drop (Ik tk (its.drop 1)+1))).2<=(Ej gs).2:=by
  conv=>rhs;rw[<- DX (Ik tk (its.drop 1)+1) gs,Uo]
  exact Nat.le_add_left _ _
 obtain⟨o,aa⟩:∃ j,Ik tk (its.drop 1)=j:=⟨_,rfl⟩
 have FD:=Ac (λW lk (h:SS W A (its.drop 1).length ((its.drop 1).map Af))=>TG0 n lk (its.drop 1).length cp A (its.drop 1) tk W h ba bb (by rw[BZ]at D;omega))
 have aw:its.length=(its.drop 1).length+1:=by
  rw[DJ];have:0<its.length:=QY.2 h2;omega
 obtain⟨cs,ai⟩:∃ l,(its.drop 1).map Af=l:=⟨_,rfl⟩;obtain⟨lk,ax⟩:∃ l,Gi (its.headD ⟨[],[]⟩).r=l:=⟨_,rfl⟩
 have ay:(its.drop 1).length=cs.length:=by rw[<- ai,BZ]
 dsimp only at ag ah D ⊢;rw[ay]at aw FD ae;rw[ai]at ag D FD ⊢;rw[ax];rw[show((2:Nat):Int)=2 from rfl];rw[aa]at ae E au av;have P:=Ag w (.cells #[.int .i64 n,.int .i64 2,.int .i64 lk,.slice A cs.length cp] 116);have NB:=Has.new w 116 #[.int .i64 n,.int .i64 2,.int .i64 lk,.slice A cs.length cp]
 have be:some w.heap.size∉some lb :: N.ownBlock :: X:=λb=>by
  rcases BI.1 b with e | b
  ·have:=m.hl.lt;have:=CV e;omega
  ·rcases BI.1 b with e | b
   ·have:=(m.ow.lt _ e.symm).2;omega
   ·have:=h.lt _ b;omega
 have D0:=Ac (show NJ w (w.alloc (.cells #[.int .i64 n,.int .i64 2,.int .i64 lk,.slice A cs.length cp] 116)) (some lb :: N.ownBlock :: X) (some lb :: N.ownBlock :: X) n 2 lk cs.length cp A cs from
  ⟨Turn.below _ P,NB,be,ag.keep P,λa e=>⟨(ah a e).1,DD (ah a e).2 P.size⟩⟩)
 have P0:=Ac (h.below P);have M0:=Ac (m.below P);have s:=Ac (AV h3 (AV h4 (AV h5 (AV h6 (AV h8 (AV aq (AV bx (AV ax ai))))))));have z:=Ac (AV hc (AV hk (AV af (AV bc (AV D (AV aw (AV au av)))))));have HT:=Ac E;have HJ:=Ac (AV aa ae);have bz:=Ac IH;have b0:=Ac (show ∀ q,q<S.q->Xu (S.G q)from h.ok.pg)
 have az:(AQ fr).toList=fr:=by rw[EL,Cb]
 have a0:(AQ tk).toList=tk:=by rw[EL,Cb]
 obtain⟨F,hF⟩:∃ x,AQ fr=x:=⟨_,rfl⟩;obtain⟨TK,a1⟩:∃ x,AQ tk=x:=⟨_,rfl⟩;have bf:=Ac (AV hF a1);rw[hF]at az ⊢;rw[a1]at a0 FD ⊢;have a2:=Ac az;have bg:=Ac a0
 have z9:(cs.length:Int)<=253:=by have:cs.length<=253:=D;omega
 obtain⟨NK,a3⟩:∃ n,(Ej gs).2=n:=⟨_,rfl⟩;rw[a3]at z ⊢;have bh:=Ac a3;obtain⟨ND,bi⟩:∃ n,K.length+g.1.length=n:=⟨_,rfl⟩;rw[bi]at z ⊢;have EJ:=Ac (show tk=[]->cs.length=o from λB=>by rw[<- aa,<- ay];unfold Ik;rw[AC B]);have EK:=Ac (show ¬ tk=[]->cnt tk false (its.drop 1)=o from λB=>by rw[<- aa];unfold Ik;rw[AO B]);obtain⟨CN,bj⟩:∃ n,cnt tk false (its.drop 1)=n:=⟨_,rfl⟩;rw[bj]at FD EK;unfold VV;clear bj IH h m hc hk af h1 h2 h3 h4 h5 h6 h7 h8 h9 D O ag ah bc ba bb C E be P NB hF a1 az a0 ae ap bd aq au av aw ai ax ay aa a3 bi;go_enter Tryz.func181,Tryz.ntmps181;have N0:=D0.nb;obtain⟨Q,R,U,V⟩:=N0.cells4;have Y:=N0.lt
 go_upto_region 2 with fail
 generalize w.alloc (.cells #[.int .i64 n,.int .i64 2,.int .i64 lk,.slice A cs.length cp] 116)=W0 at *
 go_cut [17]from 16 to 17 (λb3 wx=>b3 = .bool (!TK.toList.isEmpty)/\wx=W0)
 case first =>
  go_wp2_with fail
  go_meet;exact⟨rfl,rfl⟩
 case rest =>
 obtain⟨rfl,rfl⟩:=hcut;rename_i ha;refine ha _ _ ?_;clear ha
 go_cut [11]from 17 to 20 (λa4 wx=>a4 = .int .i64 (o:Nat)/\Below wc.heap.size wc wx)
 case first =>
  by_cases B:tk=[]
  ·have t1:TK.toList.isEmpty=true:=by rw [bg.out,B];rfl
   have a5:=Ac (EJ B);rw[t1]
   go_wp2_with fail
   go_meet;exact⟨by rw[a5.out],AU _ _⟩
  ·have t1:TK.toList.isEmpty=false:=by rw [bg.out];exact dC.2 B
   have a5:=Ac (EK B);rw[t1]
   go_wp2_with (first |(go_at_call 131;refine(FD _ _ D0.ss).mono ?_;rintro en w1 ⟨rfl,u⟩;have L:=Ac u;clear u))
   go_meet;exact⟨by rw[a5.out],L⟩
 case rest =>
 obtain⟨rfl,u⟩:=hcut;have P1:=Ac (P0.below u);have M1:=Ac (M0.below u);have D1:=Ac (D0.below u);clear P0 M0 D0 u Q R U V Y N0;have LN:=Ac (λW=>Qr n lk (.slice A cs.length cp) W);have t:=D1.nb;obtain⟨Q,R,U,V⟩:=t.cells4;have Y:=t.lt
 have b8:(o:Int)<=253:=by have:=HJ.out;omega
 clear t
 go_wp2_with (first |(go_at_call 130;refine(LN _).mono ?_;rintro en w1 ⟨rfl,u⟩;have L:=Ac u;clear u))
 have P2:=Ac (P1.below L);have M2:=Ac (M1.below L);have D2:=Ac (D1.below L);clear P1 M1 D1 L Q R U V Y LN;generalize w1=W2 at *
 have ao:=Ac (show vN base w X p tb root lb ob xb c k n lk cs.length cp A cs most fr tk S S0 N gs J T ND (o+1) (o+1) (.int .i64 (((o+1:Nat):Int)-1)) W2 from
  ⟨o+1,K,N,X,rfl,rfl,AY _,P2.more (AY _) (SY _ _),M2,D2,HT,z.2.2.2.2.2.2.1⟩)
 rw[show(((o+1:Nat):Int)-1)=(o:Int)by omega]at ao;clear P2 M2 D2
 go_loopg [11] (o+1) (λgg a4 wr=>vN base w X p tb root lb ob xb c k n lk cs.length cp A cs most fr tk S S0 N gs J T ND (o+1) gg a4 wr)
 case atStart=>exact ao
 case round =>
  clear ao;obtain⟨j,dn,v,X',rfl,hg,hj,O,b,hd,C,hN⟩:=hrel;have HP:=Ac O;have HM:=Ac b;have HD:=Ac hd;have b5:=Ac C;have HN:=Ac (AV hj (AV hN hg));by_cases h0:j=0
  ·subst h0
   have z0:¬(0:Int)<=((0:Nat):Int)-1:=by omega
   clear O b hd C hN hj hg
   go_wp2_with fail
   go_ret;refine⟨true,dn,v,X',rfl,HP.more (AY _) (by rw[GV,bh.out];omega),HM,HD.tu,.inl ⟨rfl,by have:=b5.out;rw[DZ]at this;exact this⟩,by have:=HN.out;omega⟩
  ·obtain ⟨i,rfl⟩:∃ i,j=i+1:=⟨j-1,by omega⟩
   have ei:(((i+1:Nat):Int)-1)=(i:Int):=by omega
   rw[ei]
   have aj:i<its.length:=by have:=HJ.out;have:=z.2.2.2.2.2.1;omega
   have z0:(0:Int)<=(i:Int):=by omega
   have z1:(i:Int)<=253:=by omega
   obtain⟨g1,h2,k1,k2,k3,k4,k5,k6⟩:=PJ1 s.2.2.2.2.1 s.2.2.2.1 s.1 s.2.2.1 aj s.2.2.2.2.2.2.1;obtain⟨it,ak⟩:∃ it,its[i]=it:=⟨_,rfl⟩;have a6:=s.2.1 its[i] (EI _);rw[ak]at k2 k3 a6;obtain⟨q,hq⟩:∃ q,Gi it.r=q:=⟨_,rfl⟩
   have KC:=Ac (λW (h:SS W A cs.length cs)=>show Calls Tryz.prog 132 #[.agg #[.int .i64 n,.int .i64 2,.int .i64 lk,.slice A cs.length cp],.int .i64 (i:Nat)] W λe w'=>e = .returned (.int .i64 q)/\Below W.heap.size W w' from by
    have e9:its=its.take i++its[i] :: its.drop (i+1):=by rw[<- FQ aj,DX]
    have:=Wq n cs.length cp A its W e9 (by rw[s.2.2.2.2.2.2.2.2];exact h) (UQ λy hy=>⟨(s.2.1 y hy).1,(s.2.1 y hy).2.1⟩) (s.2.1 its[i] (EI _)).2.2 (by omega);rw[CU,MC (by omega),ak,hq,s.2.2.2.2.2.2.2.1]at this
    exact this)
   rw[hq]at k2;obtain⟨q1,q2,q3⟩:=k2.pos
   have bk:k+1+(Ej (gs.drop (i+1))).2+g1.2<=k+(1+NK):=by have:=bh.out;omega
   have LD:=Ac (λW (h:PT W X' p S S0 c (k+1+(Ej (gs.drop (i+1))).2)) (B:TM W X' tb p root)=>Jg (n:=q) h B z.1 (by have:=z.2.1;omega) q1.2 (b0 q q1.2) q2)
   have E:FH fr tk most (g1.1.reverse++((Ej (gs.take i)).1.reverse++J)) dn=T:=by rw[<- C,k4,mY,BU]
   have bl:dn.length+((Ej (gs.take i)).1.length+g1.1.length)<=ND:=by rw[k4,A8]at hN;exact hN
   have Z:=Ac (λW X1 A1 b6 (h:PT W X1 p S S0 c (k+1+(Ej (gs.drop (i+1))).2+1)) (b:FB base W X1 tb p root lb ob xb most v dn) af hs hr=>bz W X1 c (k+1+(Ej (gs.drop (i+1))).2) q b6 it.k h2 g1 A1 _ v dn ((Ej (gs.take i)).1.reverse++J) h b z.1 (by have:=z.2.1;omega) af k2 rfl hs hr k3 (by have:=z.out;omega));rw[E]at Z;rw[bf.1,bf.2]at Z;unfold VV at Z;obtain⟨pg,bm⟩:∃ pg,S.G q=pg:=⟨_,rfl⟩;rw[bm]at LD Z;have K3:=Ac k3;have K5:=Ac (AV k5 bk);have KI:=Ac (AV (show its[i]? = some it from by rw[DK aj,ak]) a6);have al:=Ac bl;have t:=hd.nb;obtain⟨Q,R,U,V⟩:=t.cells4;have Y:=t.lt;have bv:=Ac (show base<=wr.heap.size from by have:=z.out;have:=hd.tu.size;omega)
   clear O b hd C hN hj hg k1 k2 k3 k4 k5 k6 q1 q2 q3 bk E bl aj ak a6 hq bm t ei h0
   go_wp2_with fail
   refine(KC _ HD.ss).mono ?_;rintro en w2 ⟨rfl,hb2⟩;have P5:=Ac (HP.below hb2);have M5:=Ac (HM.below hb2);have D5:=Ac (HD.below hb2);have B5:=Ac hb2;clear hb2 Q R U V Y HP HM HD
   go_wp2_with fail
   refine(LD _ P5 M5.tm).mono ?_;rintro en w3 ⟨A3,c3,X4,rfl,bn,am,a7,bo⟩;have P6:=Ac bn;have M6:=Ac (M5.turn am);have D6:=Ac (D5.turn ((am.cons v.ownBlock).cons (some lb)));have O3:=Ac a7;have B6:=Ac (BN bv (BN B5.size am.size))
   have R3:=Ac (show ∀ a,A3=some a->some a.block∉some lb :: v.ownBlock :: X4/\a.block<w3.heap.size from λa e=>by
    have e2:(Value.slice A3 pg.2.2.length c3).ownBlock=some a.block:=by rw[e];rfl
    have e3:=a7.lt _ e2;refine⟨λb=>?_,e3.2⟩
    rcases BI.1 b with e4 | b
    ·have:=M5.hl.lt;have:=CV e4;omega
    ·rcases BI.1 b with e4 | b
     ·have:=(M5.ow.lt _ e4.symm).2;omega
     ·exact bo _ e2 b)
   clear bn am a7 bo P5 M5 D5 LD
   go_wp2_with fail
   refine(Z _ _ A3 c3 P6 M6 B6 (SS.Ed O3) R3).mono ?_;rintro en w4 ⟨b4,H,v4,X5,rfl,bp,bq,br,an,bs⟩;have P7:=Ac bp;have M7:=Ac bq;have D7:=Ac (D6.turn br);have L4:=Ac bs;clear bp bq br bs P6 M6 D6 Z O3 R3 B6
   cases b4 with
   | false =>
     have ab:=Ac (show H=T from by rcases an with⟨h,_⟩ |⟨_,h⟩;cases h;exact h);clear an
     go_wp2_with fail
     go_ret;exact⟨false,H,v4,X5,rfl,P7.more (AY _) (by have:=K5.out;omega),M7,D7.tu,.inr ⟨rfl,ab⟩,by have:=L4.out;have:=al.out;omega⟩
   | true =>
     have ab:=Ac (show FH fr tk most ((Ej (gs.take i)).1.reverse++J) H=T from by rcases an with⟨_,h⟩ |⟨h,_⟩;exact h;cases h);clear an;have t:=D7.nb;obtain⟨Q,R,U,V⟩:=t.cells4;have Y:=t.lt;clear t;by_cases a8:i=0
     ·subst a8
      have z2:¬(0:Int)<((0:Nat):Int):=by omega
      go_wp2_with fail
      go_roundg 0
      case rel=>exact⟨0,H,v4,X5,rfl,rfl,BR _,P7.more (AY _) (by have:=K5.out;omega),M7,D7,ab,by have:=L4.out;have:=al.out;omega⟩
      case measure=>have:=HN.out;omega
     ·obtain ⟨f,rfl⟩:∃ f,i=f+1:=⟨i-1,by omega⟩
      have z2:(0:Int)<((f+1:Nat):Int):=by omega
      have ei:(((f+1:Nat):Int)-1)=(f:Int):=by omega
      have z3:(0:Int)<=(f:Int):=by omega
      have z4:(f:Int)<=252:=by omega
      have b7:f<cs.length:=by have:=HJ.out;have:=HN.out;omega
      have z5:(f:Int)<(cs.length:Int):=by omega
      have a9:cs[f]? = some (Af it):=by
       rw[<- s.2.2.2.2.2.2.2.2,GH,IX,show 1+f=f+1 by omega,KI.1];rfl
      obtain⟨gr,off,ar,gl,lc⟩:=D7.ss.2 (by omega);have bt:=lc f _ a9;have KO:=Ac (λW=>Il it KI.2.2.1 (by have:=KI.2.1;unfold CO at this;omega) W)
      have ac:(AQ it.k).toList=it.k:=by rw[EL,Cb]
      subst ar;by_cases I:ltK fr it.k
      ·have b1:Op.bytesLess (AQ it.k).toList F.toList=false:=by rw [ac,a2.out];exact dO.2 λh=>Ia _ (Fg I h)
       have b2:((AQ it.k).toList == F.toList)=false:=by rw[ac,a2.out,FK];exact λh=>Ia fr (by rw[h]at I;exact I)
       obtain⟨KE,M⟩:∃ x,AQ it.k=x:=⟨_,rfl⟩;obtain⟨CB,ad⟩:∃ x,Af it=x:=⟨_,rfl⟩;rw[M]at KO b1 b2;rw[ad]at KO bt;clear a9 lc ac I M ad a8
       go_wp2_with (first |(go_at_call 51;refine(KO _).mono ?_;rintro e w1 ⟨rfl,rfl⟩))
       go_roundg (f+1)
       case rel=>exact⟨f+1,H,v4,X5,D8 (Value.int .i64) (by omega),rfl,by have:=HN.out;omega,P7.more (AY _) (by have:=K5.out;omega),M7,D7,ab,by have:=L4.out;have:=al.out;omega⟩
       case measure=>have:=HN.out;omega
      ·have TF:=Ac (show H=T from by rw [<- ab.out];exact (qJ λe he=>Ho (K3 e he) (Md.2 I)).symm)
       obtain⟨KE,M⟩:∃ x,AQ it.k=x:=⟨_,rfl⟩;obtain⟨CB,ad⟩:∃ x,Af it=x:=⟨_,rfl⟩
       have hb:Op.bytesLess KE.toList F.toList=true\/(Op.bytesLess KE.toList F.toList=false/\(KE.toList == F.toList)=true):=by
        rw[<- M,ac,a2.out]
        cases bu:Op.bytesLess it.k fr with
        | true=>exact .inl rfl
        | false =>
          refine .inr ⟨rfl, ?_⟩;rw[OG]
          rcases Uk (Md.2 I)with h | h
          ·rw[show Op.bytesLess it.k fr=true from h]at bu;cases bu
          ·exact h
       rw[M]at KO;rw[ad]at KO bt;clear a9 lc ac I M ad a8
       rcases hb with b1 |⟨b1,b2⟩
       all_goals
        go_wp2_with (first |(go_at_call 51;refine(KO _).mono ?_;rintro e w1 ⟨rfl,rfl⟩))
        go_ret;exact⟨false,H,v4,X5,rfl,P7.more (AY _) (by have:=K5.out;omega),M7,D7.tu,.inr ⟨rfl,TF⟩,by have:=L4.out;have:=al.out;omega⟩
attribute [local go_sem] Ea Bz Bq Act.put
def qH {base tb p root lb ob xb:Nat} {most:Int} {fr tk:Ky} {S S0:St}:∀ d,YV base tb p root lb ob xb most fr tk d S S0
 | 0=>IB1
 | d+1=>EO1 (qH d)
def UV(base:Nat)(w:World)(X:List (Option Nat))(p tb root lb ob xb eb:Nat)(most:Int)(S S0:St)(c k:Nat)(b:Bool)(w':World):Prop :=
 (b=false/\PT w' X p S S0 c k/\FB base w' X tb p root lb ob xb most (.slice none 0 0) []/\Below w.heap.size w w'/\Has w' eb 26 #[.int .i64 0]/\some eb∉X) \/
 (b=true/\∃ X',FB base w' X' tb p root lb ob xb most (.slice none 0 0) [])
def wJ(base:Nat)(w:World)(X:List (Option Nat))(p tb root lb ob xb eb:Nat)(most:Int)(S S0:St)(c k:Nat)(pg:Pg)(u:Value)(w':World):Prop :=
 ∃ A cp X',u = .agg #[.int .i64 root,.int .i64 pg.1,.int .i64 pg.2.1,.slice A pg.2.2.length cp]/\PT w' X' p S S0 c (k+1)/\FB base w' X' tb p root lb ob xb most (.slice none 0 0) []/\Turn X X' w w'/\Has w' eb 26 #[.int .i64 0]/\some eb∉X'/\w'.ownsRow w.heap.size 9 1 (.slice A pg.2.2.length cp) pg.2.2.length (strs pg.2.2)/\∀ g,(Value.slice A pg.2.2.length cp).ownBlock=some g->some g∉X'
section
variable {base:Nat} {w w1 w2:World} {X:List (Option Nat)} {p tb root lb ob xb eb:Nat} {most:Int} {S S0:St} {c k:Nat} {pg:Pg} {b:Bool}
def UV.below(h:UV base w X p tb root lb ob xb eb most S S0 c k b w1)(i:Below w1.heap.size w1 w2):UV base w X p tb root lb ob xb eb most S S0 c k b w2:=by
 rcases h with⟨a,b,d,e,f,g⟩ |⟨a,X',d⟩
 ·exact .inl ⟨a,b.below i,d.below i,e.trans (i.mono e.size),f.Ai i,g⟩
 ·exact .inr ⟨a,X',d.below i⟩
def UV.mem(h:UV base w X p tb root lb ob xb eb most S S0 c k b w1):∃ X',FB base w1 X' tb p root lb ob xb most (.slice none 0 0) []:=by
 rcases h with⟨a,b,d,e⟩ |⟨a,X',d⟩
 ·exact⟨X,d⟩
 ·exact⟨X',d⟩
def PI0:TY (wJ base w X p tb root lb ob xb eb most S S0 c k pg):=λu w1 w2 h ⟨A,cp,X',a,b,d,e,f,g,i,j⟩=>⟨A,cp,X',a,b.below h,d.below h,e.next h,f.Ai h,g,own_below i h,j⟩
end
def BR1{X f g:List (Option Nat)}{w wx i:World}{lb:Nat}{o:Option Nat}(a:Turn X f w wx)(b:Turn (some lb :: none :: f) (some lb :: o :: g) wx i)(l:w.heap.size<=lb):Turn X g w i:=by
 refine⟨b.os.trans a.os,b.tape.trans a.tape,b.output.trans a.output,BN a.size b.size,λk c j=>?_,λk c=>?_⟩
 ·refine (b.block k (DD c a.size) λd=>?_).trans (a.block k c j)
  rcases BI.1 d with e | d
  ·have:=CV e;omega
  ·rcases BI.1 d with e | d
   ·cases e
   ·exact a.out j c d
 ·rcases b.new k (BF _ (BF _ c)) with h | h
  ·rcases BI.1 h with e | h
   ·have:=CV e;exact .inr (by omega)
   ·rcases BI.1 h with e | h
    ·cases e
    ·exact a.new k h
  ·exact .inr (BN a.size h)
def CT1 {w:World} {X:List (Option Nat)} {tb p root c k:Nat} {S S0:St} {x0:Nd} {O:List (List Nd)} {E:List En} {P:List (List Nat)} {fr tk:Ky} {most:Int} (h:PT w X p S S0 c k) (y:TM w X tb p root) (hc:c<=60000) (hE:E.length<=60000) (hk:k+S.q<=500000000) (hq:S.q<=49000)
 (z:Vp S root x0 O E P) :
 Calls Tryz.prog 108 #[.pointer (some ⟨tb,0,none⟩),.string (AQ fr),.string (AQ tk),.int .i64 most] w (aN X w p S S0 c (k+S.q) (FH fr tk most E.reverse [])):=by
 have ay:∀(fn:Fn) (first cap:Array Value) (w:World),(Instr.makeFunc fn first cap).run Tryz.prog w = .ok (.func fn first cap) w:=λ_ _ _ _=>rfl;have ai:=h.ok;have aa:=oP z (by omega);have aj:(Gl [x0] O++P.flatten).length<=S.q:=Ux S.q _ z.nd λq hq=>(z.rng q hq).2.1
 obtain⟨q1,q2,q3⟩:=aa.pos;obtain⟨pg,ab⟩:∃ pg,S.G root=pg:=⟨_,rfl⟩
 have LD:=Ac (λW X (h:PT W X p S S0 c k) (y:TM W X tb p root)=>Jg (n:=root) h y hc (by omega) q1.2 (ai.pg root q1.2) q2);have L:=Ac (λbase lb ob xb W X A cp (h:PT W X p S S0 c (k+1)) (d:FB base W X tb p root lb ob xb most (.slice none 0 0) []) H z hr=>qH (fr:=fr) (tk:=tk) O.length W X c k root cp [] [] _ A _ _ [] [] h d hc (show k+(Gl [x0] O++P.flatten).length<=700000000 by omega) H aa ab z hr (λe Y=>(by cases Y)) (show 0+E.length<=60000 by omega));rw[ab]at LD;simp only[GI]at L;obtain⟨T,hT⟩:∃ T,FH fr tk most E.reverse []=T:=⟨_,rfl⟩;rw[hT]at L ⊢;have HN:=Ac aj;obtain⟨F,hF⟩:∃ x,AQ fr=x:=⟨_,rfl⟩;obtain⟨TK,ak⟩:∃ x,AQ tk=x:=⟨_,rfl⟩;rw[hF,ak]at L ⊢;unfold VV at L
 have Z:Below w.heap.size w ((((w.alloc (.cells #[.pointer (some ⟨tb,0,none⟩)] 31)).alloc (.cells #[.int .i64 most] 3)).alloc (.cells #[.slice none 0 0] 81)).alloc (.cells #[.int .i64 0] 26)) :=
  ((((AU _ _).alloc (AY _) _).alloc (by simp only[ED];omega) _).alloc (by simp only[ED];omega) _).alloc (by simp only[ED];omega) _
 have I:=h.lt;have al:=y.has.lt
 have B:=Ac (show FB w.heap.size ((((w.alloc (.cells #[.pointer (some ⟨tb,0,none⟩)] 31)).alloc (.cells #[.int .i64 most] 3)).alloc (.cells #[.slice none 0 0] 81)).alloc (.cells #[.int .i64 0] 26)) X tb p root (w.heap.size+1+1) (w.heap.size+1) w.heap.size most (.slice none 0 0) [] from
  ⟨y.below Z,by
    have:=Has.new ((w.alloc (.cells #[.pointer (some ⟨tb,0,none⟩)] 31)).alloc (.cells #[.int .i64 most] 3)) 81 #[.slice none 0 0];simp only[ED]at this
    exact this.alloc _,by
    have:=Has.new (w.alloc (.cells #[.pointer (some ⟨tb,0,none⟩)] 31)) 3 #[.int .i64 most];simp only[ED]at this
    exact(this.alloc _).alloc _,((((Has.new w 31 #[.pointer (some ⟨tb,0,none⟩)]).alloc _).alloc _).alloc _),λd=>by have:=I _ d;omega,λd=>by have:=I _ d;omega,λd=>by have:=I _ d;omega,by omega,JJ _ _ _ _,λg r=>by cases r⟩)
 have C:=Ac (show Has ((((w.alloc (.cells #[.pointer (some ⟨tb,0,none⟩)] 31)).alloc (.cells #[.int .i64 most] 3)).alloc (.cells #[.slice none 0 0] 81)).alloc (.cells #[.int .i64 0] 26)) (w.heap.size+1+1+1) 26 #[.int .i64 0]/\some (w.heap.size+1+1+1)∉X from by
  have:=Has.new (((w.alloc (.cells #[.pointer (some ⟨tb,0,none⟩)] 31)).alloc (.cells #[.int .i64 most] 3)).alloc (.cells #[.slice none 0 0] 81)) 26 #[.int .i64 0];simp only[ED]at this
  exact⟨this,λd=>by have:=I _ d;omega⟩)
 have P0:=Ac (h.below Z);have U0:=Ac (Turn.below X Z);clear h y hc hE hk hq z ai aa aj q1 q2 q3 hT hF ak Z I al ab
 go_enter_defers Tryz.func108,Tryz.ntmps108
 go_upto_region 2 with fail
 obtain⟨bs,H⟩:∃ n,w.heap.size=n:=⟨_,rfl⟩;have Q:=Ac H;rw[H]at B C ⊢;obtain⟨ob,ac⟩:∃ n,bs+1=n:=⟨_,rfl⟩;have ad:=Ac ac;rw[ac]at B C ⊢;obtain⟨lb,ae⟩:∃ n,ob+1=n:=⟨_,rfl⟩;have af:=Ac ae;rw[ae]at B C ⊢;obtain⟨eb,ag⟩:∃ n,lb+1=n:=⟨_,rfl⟩;have ah:=Ac ag;rw[ag]at C ⊢;clear H ac ae ag;generalize (((w.alloc (.cells #[.pointer (some ⟨tb,0,none⟩)] 31)).alloc (.cells #[.int .i64 most] 3)).alloc (.cells #[.slice none 0 0] 81)).alloc (.cells #[.int .i64 0] 26)=W0 at *
 refine Oh 10 6 (λj=>decide (j≠6)) _ (UV bs W0 X p tb root lb ob bs eb most S S0 c k) (QD [λu _=>u = .pointer (some ⟨tb,0,none⟩),λu _=>u = .pointer (some ⟨tb,0,none⟩),λu _=>u = .pointer (some ⟨tb,0,none⟩),λu _=>u = .pointer (some ⟨tb,0,none⟩),λu _=>u = .pointer (some ⟨tb,1,none⟩),λu _=>u = .int .i64 root,wJ bs W0 X p tb root lb ob bs eb most S S0 c k pg,λu _=>u = .string F,λu _=>u = .string TK,λu _=>u = .func (.func 182) #[] #[.pointer (some ⟨lb,0,none⟩),.pointer (some ⟨ob,0,none⟩),.pointer (some ⟨bs,0,none⟩)]]) (by kernel_rfl) (by kernel_rfl) (by kernel_rfl) rfl (by kernel_rfl) ?hPH ?hst ?hstq ?h0 ?hops ?hopq ?hend
 case hPH=>exact λb w1 w2 h hb=>h.below hb
 case hst=>exact Qj _ ⟨Bh _,Bh _,Bh _,Bh _,Bh _,Bh _,PI0,Bh _,Bh _,Bh _,trivial⟩
 case hstq =>
  intro j u w1 w2 hj h
  match j,PQ hj with
  | 0,_=>exact h
  | 1,_=>exact h
  | 2,_=>exact h
  | 3,_=>exact h
  | 4,_=>exact h
  | 5,_=>exact h
  | 6,hj=>exact absurd rfl hj
  | 7,_=>exact h
  | 8,_=>exact h
  | 9,_=>exact h
  | _+10,_=>trivial
 case h0=>exact .inl ⟨rfl,P0.below ((AU _ _).drew),B.below ((AU _ _).drew),(AU _ _).drew,C.1.Ai ((AU _ _).drew),C.2⟩
 case hops =>
  intro bb M wx o l;obtain⟨u0,u1,u2,u3,u4,u5,u6,u7,u8,u9,rfl⟩:=gU M o;clear o;simp only[Bq,Act.put,DY,DZ,EP,EF,EH];refine⟨.inr (.inr λh=>?_),.inr (.inr λh=>?_),.inr (.inr λh=>?_),.inr (.inr λh=>?_),.inr (.inr λh=>?_),.inr (.inr λh=>?_),.inl rfl,.inr (.inr λh=>?_),.inr (.inr λh=>?_),.inr (.inr λh=>?_),trivial⟩
  ·clear h;obtain⟨X',i⟩:=l.mem;have c0:=i.hx.cell 0;have cz:=i.hx.lt;refine Ae rfl ?_;go_simp;exact⟨AU _ _,rfl⟩
  ·clear h;obtain⟨X',i⟩:=l.mem;have c0:=i.hx.cell 0;have cz:=i.hx.lt;refine Ae rfl ?_;go_simp;exact⟨AU _ _,rfl⟩
  ·clear h;obtain⟨X',i⟩:=l.mem;have c0:=i.hx.cell 0;have cz:=i.hx.lt;refine Ae rfl ?_;go_simp;exact⟨AU _ _,rfl⟩
  ·obtain rfl:=h 2 rfl
   (clear h;refine Ae rfl ?_;go_simp;exact⟨AU _ _,rfl⟩)
  ·obtain rfl:=h 3 rfl
   (clear h;refine Ae rfl ?_;go_simp;exact⟨AU _ _,rfl⟩)
  ·obtain rfl:=h 4 rfl;clear h;obtain⟨X',i⟩:=l.mem;have c0:=i.tm.has.cell 1;have cz:=i.tm.has.lt;refine Ae rfl ?_;go_simp;exact⟨AU _ _,rfl⟩
  ·(clear h;refine Ae rfl ?_;go_simp;exact⟨AU _ _,rfl⟩)
  ·(clear h;refine Ae rfl ?_;go_simp;exact⟨AU _ _,rfl⟩)
  ·(clear h;refine Ae rfl ?_;go_simp;exact⟨AU _ _,rfl⟩)
 case hopq =>
  intro M wx o l h;obtain⟨u0,u1,u2,u3,u4,u5,u6,u7,u8,u9,rfl⟩:=gU M o;clear o;simp only[Bq,Act.put,DY,DZ,EP,EF,EH];refine⟨rfl, ?_⟩;obtain rfl:=h 1 rfl;obtain rfl:=h 5 rfl;clear h
  rcases l with⟨_,hp,d,hb,Y,hx⟩ |⟨hf,_⟩
  ·go_simp;refine(LD _ _ hp d.tm).mono ?_;rintro en w4 ⟨N,c4,D,rfl,R,m,J,U⟩;refine⟨_,rfl,.inr ⟨rfl,D,d.turn m⟩,N,c4,D,rfl,R,d.turn m,(Turn.below _ hb).trans m,m.has Y hx,m.out hx Y.lt,own_base J hb.size,U⟩
  ·cases hf
 case hend =>
 intro M wx o l;obtain⟨u0,u1,u2,u3,u4,u5,u6,u7,u8,u9,rfl⟩:=gU M o;clear o;intro av;obtain⟨h0,h1,h2,h3,h4,h5,h6,h7,h8,h9,_⟩:=av;obtain rfl:=h0;obtain⟨N,c4,D,rfl,R,am,m,an,ao,J,U⟩:=h6;obtain rfl:=h7;obtain rfl:=h8;obtain rfl:=h9;have P4:=Ac R;have M4:=Ac am;have T4:=Ac m;have E4:=Ac (AV an ao);have O4:=Ac J
 have R4:=Ac (show ∀ a,N=some a->some a.block∉some lb :: (Value.slice none 0 0).ownBlock :: D/\a.block<wx.heap.size from λa e=>by
  have e2:(Value.slice N pg.2.2.length c4).ownBlock=some a.block:=by rw[e];rfl
  have e3:=J.lt _ e2;refine⟨λd=>?_,e3.2⟩
  rcases BI.1 d with s | d
  ·have:=B.hl.lt;have:=CV s;omega
  ·rcases BI.1 d with s | d
   ·cases s
   ·exact U _ e2 d)
 have BS:=Ac (show bs<=wx.heap.size from by have:=B.hx.lt;have:=m.size;omega);simp only[Bq,Act.put,DY,DZ,IC,GV,EP,EF,EH];clear h1 h2 h3 h4 h5 l R am m an ao J U LD
 go_wp2_with (first |(go_at_call 181;(with_reducible refine(L.out bs lb ob bs wx D N c4 P4.out M4.out BS.out (SS.Ed O4.out) R4.out).mono ?_);rintro en w5 ⟨b5,K,v5,X5,rfl,ap,v,V,aq,aw⟩;obtain⟨A5,c5,rfl,_⟩:=Bg v.ow;have P5:=Ac ap;have M5:=Ac v;have T5:=Ac V;have B5:=Ac (show K=T from by rcases aq with⟨_,h⟩ |⟨_,h⟩;exact h;exact h);have XE:=Ac (show some eb∉some lb :: (Value.slice none 0 0).ownBlock :: D from λd=>by
  rcases BI.1 d with s | d
  ·have:=CV s;have:=ah.out;omega
  ·rcases BI.1 d with s | d
   ·cases s
   ·exact E4.2 d);      have E5:=Ac (AV (V.has E4.1 XE) (V.out XE E4.1.lt));have d0:=v.hl.cell 0;have dz:=v.hl.lt;have df:=v.hl.frozen 0;have e0:=E5.1.cell 0;have ez:=E5.1.lt;have ef:=E5.1.frozen 0;have ne:eb≠lb:=(by have:=ah.out;omega);have YP:lb≠eb:=(by omega);clear ap v V aq aw))
 have ar:∀ g,(Value.slice A5 K.length c5).ownBlock=some g->g≠eb:=λg r e=>by
  subst e
  rcases T5.new g (BF _ (BI.2 (.inl r.symm)))with h | h
  ·exact XE h
  ·have:=E4.1.lt;omega
 have au:some eb∉X5:=λd=>E5.2 (BF _ (BF _ d))
 have ax:=Ac (show aN X w p S S0 c (k+S.q) T (.returned (.tuple #[.slice A5 K.length c5,.int .i64 0])) ((w5.setCell ⟨lb,0,none⟩ (.slice A5 K.length c5)).setCell ⟨eb,0,none⟩ (.int .i64 0))from by
  refine⟨.slice A5 K.length c5,X5,rfl, ?_, ?_, ?_,λg r=>(M5.ox g r).1⟩
  ·rw [<- B5.out,Q.out];exact Bo M5.ow λg r=>(CX _ _ _ _ (ar g r)).trans (CX _ _ _ _ (M5.ox g r).2.1)
  ·exact((P5.set M5.nl 0 _).set au 0 _).more (AY _) (by have:=HN.out;omega)
  ·have t:=BR1 (U0.trans T4) T5 (by have:=Q.out;have:=ad.out;have:=af.out;omega)
   exact(t.Dz (by have:=Q.out;have:=ad.out;have:=af.out;omega) 0 _).Dz (by have:=Q.out;have:=ad.out;have:=af.out;have:=ah.out;omega) 0 _)
 clear ar au;refine JI (f:=180) (args:=#[.pointer (some ⟨eb,0,none⟩)]) (by simp) (by simp[go_sem]) ?_;refine(LY0 ⟨eb,0,none⟩ _).mono ?_;rintro e u' az ⟨rfl,rfl,rfl⟩;simp[Leaves,settle,results,Tryz.results108,go_sem,ez,ef,e0,d0,dz,df,ne,YP];exact ax
end Go.Proofs.YtjihboddejaelaaGreat
namespace Go.Proofs.YtjihboddejaelaaGreat
open Go.RowKit Go.BigFrame
def RV(c:Int)(n:Nat):Nat:=(if c<0 then(-(c+1)).toNat else c.toNat) % n
def oQ(c:Int){n:Nat}(h:0<n):RV c n<n:=Nat.mod_lt _ h
def uT(c:Int)(n:Nat)(d : -9223372036854775808<=c/\c<=9223372036854775807)(f:0<n)(g:n<=1000000)(w:World):Calls Tryz.prog 33 #[.int .i64 c,.int .i64 n] w λe w'=>e = .returned (.int .i64 (RV c n:Nat))/\w=w':=by
 obtain⟨x,a⟩:∃ x,RV c n=x:=⟨_,rfl⟩;rw[a];by_cases b:c<0
 ·have w1:wrap64 (c+1)=c+1:=YJ _ (by omega);have w2:wrap64 (-(c+1)) = -(c+1):=YJ _ (by omega)
  have e:(-(c+1)).tmod (n:Int)=(x:Int):=by
   rw[<- a,RV,AC b];rw[Int.tmod_eq_emod_of_nonneg (by omega),Int.natCast_emod,OU (by omega)]
  have X:=Ac a;clear a d;go_enter Tryz.func33,Tryz.ntmps33
  go_wp2_with fail
  go_ret;exact⟨by first | rfl | simp_all,rfl⟩
 ·have e:c.tmod (n:Int)=(x:Int):=by
   rw[<- a,RV,AO b];rw[Int.tmod_eq_emod_of_nonneg (by omega),Int.natCast_emod,OU (by omega)]
  have X:=Ac a;clear a d;go_enter Tryz.func33,Tryz.ntmps33
  go_wp2_with fail
  go_ret;exact⟨by first | rfl | simp_all,rfl⟩
def CJ1(s:ByteArray):s.toList.isEmpty=decide (s.size=0):=by
 have h:s.size=s.data.toList.length:=JX.symm;rw[EL,h]
 cases s.data.toList with
 | nil=>rfl
 | cons a l=>exact(EY (by rw[DF];omega)).symm
def BJ1 (s:ByteArray) (n:Int) (p : -9223372036854775808<=n/\n<=9223372036854775807) (i:s.size<=140737488351232) (w:World) :
 Calls Tryz.prog 103 #[.string s,.int .i64 n] w (λe w'=>∃ v:ByteArray,e = .returned (.string v)/\v.size<=140737488351232/\w=w'):=by
 have j:=Ac (λW=>uT n 3100 p (by omega) (by omega) W);rw[show((3100:Nat):Int)=3100 from rfl]at j;have b:=oQ n (show 0<3100 by omega);obtain⟨m,q⟩:∃ m,RV n 3100=m:=⟨_,rfl⟩;rw[q]at j b
 have G:(m:Int)<3100:=by omega
 clear q p;go_enter Tryz.func103,Tryz.ntmps103
 go_upto_region 2 with(go_at_call 33;refine(j _).mono ?_;rintro e w1 ⟨rfl,rfl⟩)
 go_cut [8]from 7 to 8 (λz wx=>z = .bool s.toList.isEmpty/\wx=w)
 case first =>
  go_wp2_with fail
  go_meet;exact⟨rfl,rfl⟩
 case rest =>
 obtain⟨rfl,rfl⟩:=hcut;rename_i A;refine A _ _ ?_
 go_cut [0]from 8 to 8 (λk wx=>∃ v:ByteArray,k = .string v/\1<=v.size/\v.size<=140737488351232/\wx=wc)
 case first =>
  have B:=Ac i;have h:=CJ1 s;by_cases a:s.size=0
  ·rw [h,EW a];clear a h i
   go_wp2_with fail
   go_meet;exact⟨⟨#[45]⟩,rfl,by decide,by decide,rfl⟩
  ·have C:=Ac a;rw[h,EY a];clear a h i
   go_wp2_with fail
   go_meet;exact⟨s,rfl,by have:=C.out;omega,B,rfl⟩
 case rest =>
 obtain⟨v,rfl,x,y,rfl⟩:=hcut;clear i
 go_wp2_with fail
 go_loopg [0] m (λD k wr=>∃ u:ByteArray,k = .string u/\1<=u.size/\u.size<=140737488351232/\wr=wc/\m<=u.size+D)
 case atStart=>exact⟨v,rfl,x,y,rfl,by omega⟩
 case round =>
  obtain⟨u,rfl,c,d,rfl,g⟩:=hrel;by_cases f:u.size<m
  ·have l1:(u.size:Int)<(m:Int):=by omega
   have H:¬ 9223372036854775807<u.size+u.size:=by omega
   have l:(u++u).size=u.size+u.size:=by simp
   have r:=Ac (AV g (AV c (AV f b)));clear g c d f b
   go_wp2_with fail
   go_roundg (m-(u.size+u.size))
   case rel=>have:=r.out;exact⟨u++u,rfl,by omega,by omega,rfl,by omega⟩
   case measure=>have:=r.out;omega
  ·have l1:¬ (u.size:Int)<(m:Int):=by omega
   have t:=Ac d;by_cases o:m<u.size/\0<m
   ·have l2:(m:Int)<(u.size:Int):=by omega
    have E:(0:Int)<(m:Int):=by omega
    have I:(m:Int)<=(u.size:Int):=by omega
    have J:(0:Int)<=(m:Int):=by omega
    have l:(u.extract 0 m).size<=140737488351232:=by rw[TJ];omega
    have F:=Ac l;clear g c d f b o l
    go_wp2_with fail
    go_ret;exact⟨_,rfl,F,rfl⟩
   ·by_cases a:m<u.size
    ·have l2:(m:Int)<(u.size:Int):=by omega
     have E:¬(0:Int)<(m:Int):=by omega
     clear g c d f b o a
     go_wp2_with fail
     go_ret;exact⟨_,rfl,t,rfl⟩
    ·have l2:¬ (m:Int)<(u.size:Int):=by omega
     clear g c d f b o a
     go_wp2_with fail
     go_ret;exact⟨_,rfl,t,rfl⟩
end Go.Proofs.YtjihboddejaelaaGreat
namespace Go.Proofs.YtjihboddejaelaaGreat
open Go.RowKit
def Vp.oD{S:St}{root:Nat}{x:Nd}{Ds:List (List Nd)}{E:List En}{P:List (List Nat)}(h:Vp S root x Ds E P):VZ E:=by
 have:(E.map (·.1)).Pairwise ltK:=by
  rw[h.ent.keys,<- sK,PX];exact uN (rD h.tre.1)
 exact PX.1 this
open Go.BigFrame
structure Pr (w:World) (X:List (Option Nat)) (p tb root mb:Nat) (E:List En) (A:Option Addr) (cA:Nat):Prop where
 tm:TM w X tb p root
 mp:Mp w mb E A cA
 mx:some mb∉X
 mt:mb≠tb
 rx:0<E.length->∀ a,A=some a->some a.block∉X/\a.block≠mb/\a.block<w.heap.size
section
variable {w w':World} {X X':List (Option Nat)} {p tb root mb cA:Nat} {E:List En} {A:Option Addr}
def FV.stay(h:FV w A E)(g:w.heap.size<=w'.heap.size)(j:0<E.length->∀ a,A=some a->w'.heap[a.block]? = w.heap[a.block]?):FV w' A E:=λc=>by
 obtain⟨b,e,k,d⟩:=h c;have f:=j c _ e;exact⟨b,e,DD k g,λi x hi=>⟨(lW (a:=⟨b,i*2,none⟩) f).trans (d i x hi).1,(lW (a:=⟨b,i*2+1,none⟩) f).trans (d i x hi).2⟩⟩
def Pr.turn(h:Pr w X p tb root mb E A cA)(b:Turn X X' w w'):Pr w' X' p tb root mb E A cA :=
 ⟨h.tm.turn b,⟨b.has h.mp.has h.mx,h.mp.rd.stay b.size λc a e=>b.block _ (h.rx c a e).2.2 (h.rx c a e).1,h.mp.cp⟩,b.out h.mx h.mp.has.lt,h.mt,λc a e=>⟨b.out (h.rx c a e).1 (h.rx c a e).2.2,(h.rx c a e).2.1,DD (h.rx c a e).2.2 b.size⟩⟩
def Pr.below(h:Pr w X p tb root mb E A cA)(a:Below w.heap.size w w'):Pr w' X p tb root mb E A cA:=h.turn (Turn.below _ a)
end
def IA(S:St)(root:Nat)(E:List En)(own:List Nat):Prop:=∃ x Ds P,Vp S root x Ds E P/\(∀ ps∈P,ps.length<=3)/\own=Gl [x] Ds++P.flatten
structure Bd (S:St) (c k:Nat) (E:List En):Prop where
 c:c+12000<=60000
 k:k<=300000000
 q:S.q<=9000
 e:E.length<=400
def Hm(w:World)(X:List (Option Nat))(p tb root mb:Nat)(S S0:St)(c k:Nat)(E:List En)(own:List Nat)(A:Option Addr)(e:Ending)(w':World):Prop :=
 e = .returned (.bool true)/\∃ b X' E' own' A' d,PT w' X' p b S0 (c+120) (k+12000)/\Pr w' X' p tb root mb E' A' d/\Turn (some mb :: X) (some mb :: X') w w'/\IA b root E' own'/\Mv S b own own'/\b.q<=S.q+21/\E'.length<=E.length+1/\((A'=A/\(0<E'.length->0<E.length))\/∀ a,A'=some a->w.heap.size<=a.block)
section
variable {w w':World} {X X':List (Option Nat)} {p tb root mb cA c k k':Nat} {S S0:St} {E:List En} {own:List Nat} {A:Option Addr}
def Hm.read(a:PT w' X' p S S0 c k')(b:Pr w' X' p tb root mb E A cA)(d:Turn X X' w w')(e:IA S root E own)(f:k'<=k+12000):Hm w X p tb root mb S S0 c k E own A (.returned (.bool true)) w' :=
 ⟨rfl,S,X',E,own,A,cA,a.more (by omega) f,b,d.cons _,e,Mv.refl _ _,by omega,by omega,.inl ⟨rfl,id⟩⟩
def FY.keys {G:Nat->Pg} {q:Nat}:∀ {d n:Nat} {lo hi:Ky} {g:List En×Nat},FY G q d n lo hi g->∀ e∈g.1,1<=e.1.length/\e.1.length<=200
 | 0,n,lo,hi,g,⟨lk,its,P,h1,h2,h3,_⟩=>λe a=>by
   obtain⟨i,c,f⟩:=h2.UU e a;rw[<- f];exact⟨(h3 i c).1.pos,(h3 i c).1.le⟩
 | d+1,n,lo,hi,g,⟨its,gs,h1,h2,h3,h4,h5,h6,h7,h8,h9⟩=>λe a=>by
   rw[h9]at a
   have j:∀{b:List (Nat×Ky)} {gs:List (List En×Nat)},Ru (FY G q d) hi b gs->∀ e∈(Ej gs).1,1<=e.1.length/\e.1.length<=200:=by
    intro b
    induction b with
    | nil =>
      intro gs h e a
      cases gs with
      | nil=>cases a
      | cons _ _=>exact h.elim
    | cons z b k =>
      intro gs h e a
      cases gs with
      | nil=>exact h.elim
      | cons g gs =>
        rcases BO.1 (show e∈g.1++(Ej gs).1 from a)with a | a
        ·exact FY.keys h.1 e a
        ·exact k h.2 e a
   exact j h8 e a
def IA.keys(h:IA S root E own)(a:S.q<=65536):∀ e∈E,1<=e.1.length/\e.1.length<=200:=λe b=>by
 obtain⟨x,Ds,P,c,_,_⟩:=h;exact FY.keys (oP c a) e b
def IA.none(h:IA S root E own)(b:S.q<=65536){key:Ky}(c:¬(1<=key.length/\key.length<=200)):Em key E=false/\JG key E=[]:=by
 have a:Em key E=false:=by
  cases hi:Em key E with
  | false=>rfl
  | true =>
    rw[Y0]at hi
    split at hi
    ·next hl =>
     rw[OG]at hi;exact absurd (by have:=h.keys b _ (EI hl);rw[hi]at this;exact this) c
    ·cases hi
 exact⟨a,by unfold JG;rw[a];rfl⟩
def Hm.turned {w1 w2:World} {g:St} {E':List En} {own':List Nat} {A':Option Addr} {m:Nat} (h:PT w1 X' p g S0 (c+120) k') (f:Pr w1 X' p tb root mb E A cA) (n:Turn X X' w w1) (j:w1.grownBy w2 (some mb)) (o:Mp w2 mb E' A' m) (d:(∀ a,A'=some a->w1.heap.size<=a.block)\/(A'=A/\(0<E'.length->0<E.length)))
 (t:IA g root E' own') (u:Mv S g own own') (v:g.q<=S.q+21) (x:E'.length<=E.length+1) (y:k'<=k+12000):Hm w X p tb root mb S S0 c k E own A (.returned (.bool true)) w2:=by
 refine⟨rfl,g,X',E',own',A',m, ?_,⟨?_,o,f.mx,f.mt,λr a e=>?_⟩,(n.cons _).trans (lF j AZ),t,u,v,x, ?_⟩
 ·exact(h.grown j λi e=>by cases e;exact f.mx).more (AY _) y
 ·exact f.tm.grown j λe=>f.mt (CV e).symm
 ·obtain ⟨b,l,s,_⟩:=o.rd r;rw[l]at e;have z:=CV e;subst z
  rcases d with d | d
  ·have:=d _ l;refine⟨λB=>?_, ?_,s⟩
   ·have:=h.lt _ B;dsimp only at *;omega
   ·have:=f.mp.has.lt;dsimp only at *;omega
  ·obtain ⟨C,D,F⟩:=f.rx (d.2 r) _ (d.1 ▸ l);exact⟨C,D,s⟩
 ·rcases d with d | d
  ·exact .inr λa e=>BN n.size (d a e)
  ·exact .inl d
end
end Go.Proofs.YtjihboddejaelaaGreat
