/-
  The law TreeMaps.
-/
import Derived.Test.YtjihboddejaelaaGreatTm1
import Derived.Test.YtjihboddejaelaaGreatTm22
import Derived.Test.YtjihboddejaelaaGreatTm19
import Derived.Test.YtjihboddejaelaaGreatTm21
import Derived.Deep.CutBlock
set_option linter.unusedVariables false
set_option linter.unusedSimpArgs false
set_option linter.defProp false
set_option maxRecDepth 100000
set_option maxHeartbeats 100000000
namespace Go.Proofs.YtjihboddejaelaaGreat
open Go.RowKit Go.BigFrame
attribute [local go_sem] Ea Bz Bq Act.put
def Y7(w:World)(A:Option Addr)(n:Nat)(c:List Us):Prop :=
 c.length=n/\(0<n->∃ b off,A=some ⟨b,off,none⟩/\b<w.heap.size/\∀ i a,c[i]? = some a->∀ j u,a.arr[j]? = some u->w.cell? ⟨b,off+i*8+j,none⟩=some u)
def Y7.take{w:World}{A:Option Addr}{n k:Nat}{d:List Us}(h:Y7 w A n d)(j:k<=n):Y7 w A k (d.take k) :=
 ⟨by rw[CU,h.1];omega,λl=>by
   obtain⟨b,off,e,f,g⟩:=h.2 (by omega)
   exact⟨b,off,e,f,λi a c=>g i a (by
    rw[GZ]at c
    split at c
    ·exact c
    ·cases c)⟩⟩
def DQ1:(Tryz.prog.info? 31).map (λi=>(i.zero,i.size,i.bytes))=some (some (.pointer none),1,8):=by kernel_rfl
def JT0:(Value.pointer none).cells.size=1:=by kernel_rfl
def ptrs(f:Nat->Nat)(i:Nat):List Value:=(List.range i).map λj=>.pointer (some ⟨f j,0,none⟩)
def BZ1(f:Nat->Nat)(i x:Nat):ptrs (upd f i x) (i+1)=ptrs f i++[.pointer (some ⟨x,0,none⟩)]:=by
 unfold ptrs;rw[List.range_succ,D9,List.map_singleton,Iq];refine D8 (·++ _) (YC λj a=>?_);rw[upd_ne (by have:=cO.1 a;omega)]
structure Mk (W0 wr:World) (X0 X:List (Option Nat)) (p i:Nat) (S:St) (tb rt:Nat->Nat) (own:Nat->List Nat) (v6:Value):Prop where
 pt:PT wr X p S St.first (1+3*i) (100+5*i)
 tu:Turn X0 X W0 wr
 ow:wr.ownsRow W0.heap.size 31 1 v6 i (ptrs tb i)
 ox:∀ g,v6.ownBlock=some g->some g∉X
 tm:∀ j,j<i->TM wr X (tb j) p (rt j)
 ts:∀ j,j<i->IA S (rt j) [] (own j)
 ap:∀ j j2,j<i->j2<i->j≠j2->∀ q∈own j,q∉own j2
 q:S.q<=1+i
def RelA(b:World)(X0:List (Option Nat))(p:Nat)(g:Nat)(c a:Value)(wr:World):Prop :=
 ∃(i:Nat) (S:St) (X:List (Option Nat)) (d e:Nat->Nat) (own:Nat->List Nat),i+g=2/\a = .int .i64 i/\Mk b wr X0 X p i S d e own c
def Mk.next {w wr a o l:World} {X0 X f:List (Option Nat)} {p i n:Nat} {S:St} {y I:Nat->Nat} {own:Nat->List Nat} {d s:Value} (h:Mk w wr X0 X p i S y I own d) (hi:i<2) (Y:S.Aj=n) (J:PT a f p (S.alloc.set n (1,0,[])) St.first (1+3*i+3) (100+5*i+5)) (u:Turn X f wr a) (K:Below a.heap.size a o) (O:Has o a.heap.size 111 #[.pointer (some ⟨p,0,none⟩),.int .i64 n])
 (Z:l.ownsRow w.heap.size 31 1 s (i+1) (ptrs y i++[.pointer (some ⟨a.heap.size,0,none⟩)])) {c:World} (G:Below o.heap.size o c) (z:c.grownBy l d.ownBlock) (Q:s.ownBlock=d.ownBlock\/s.ownBlock=some c.heap.size) :
 ∃ R own',Mk w l X0 f p (i+1) (S.alloc.set n (1,0,[])) (upd y i a.heap.size) R own' s:=by
 have ok:=h.pt.ok;obtain⟨tn,A⟩:=qP ok (by have:=h.q;omega);rw[Y]at tn A;have m:Below a.heap.size a c:=K.trans (G.mono K.size);have z1:=u.size;have z2:=m.size;have F:=J.lt;have N:∀ g,g<c.heap.size->d.ownBlock≠some g->l.heap[g]? = c.heap[g]? := λg hl T=>z.block g hl λe=>T e.symm;have L:∀ g,d.ownBlock=some g->some g∉f:=λg e=>u.out (h.ox g e) (h.ow.lt g e).2
 have H:∀{t r:Nat},TM c f t p r->d.ownBlock≠some t->TM l f t p r:=λ{t r} q e=>⟨(N t q.has.lt e).trans q.has,q.out⟩
 have U:∀{t:Nat} {cs:Array Value},Has wr t 111 cs->d.ownBlock≠some t:=λ{t cs} q e=>by
  rcases h.ow.2 with⟨B,_⟩ |⟨g,cap,aa,B,_,V,_⟩
  ·rw[B]at e;cases e
  ·rw [B] at e;have:g=t:=CV e;subst this;exact Has.ne V q (by decide) rfl
 refine⟨upd I i n,upd own i [n],⟨?_, ?_, ?_,λg e=>?_,λj v=>?_,λj v=>?_,λj C v ab hd=>?_, ?_⟩⟩
 ·have:=(J.below m).grown z L;rw[show 1+3*(i+1)=1+3*i+3 by omega,show 100+5*(i+1)=100+5*i+5 by omega];exact this
 ·exact((h.tu.trans u).next m).Yc z λg e=>(h.ow.lt g e).1
 ·rw[BZ1];exact Z
 ·rcases Q with k | k
  ·rw[k]at e;exact L g e
  ·have:g=c.heap.size:=CV (e.symm.trans k)
   exact λb=>by have:=F _ b;omega
 ·by_cases e:j=i
  ·subst e;rw[Iq,Iq]
   refine H ⟨O.Ai G,λb=>by have:=F _ b;omega⟩ λe=>by have:=(h.ow.lt _ e).2;omega
  ·rw [upd_ne e,upd_ne e];have q:=h.tm j (by omega);exact H ((q.turn u).below m) (U q.has)
 ·by_cases e:j=i
  ·subst e;rw[Iq,Iq];exact⟨_,_,_,tn,λps W=>(by cases W),rfl⟩
  ·rw [upd_ne e,upd_ne e];obtain⟨x,Ds,P,D,M,E⟩:=h.ts j (by omega);exact⟨x,Ds,P,(D.congr A λ_ _ b=>(by cases b)).1,M,E⟩
 ·have key:∀ j,j<i->∀ q∈own j,q∉[n]:=λj v=>by
   obtain⟨x,Ds,P,D,M,E⟩:=h.ts j v;rw[E];exact(D.congr A λ_ _ b=>(by cases b)).2
  by_cases e:j=i
  ·subst e;rw[Iq,upd_ne (by omega)];exact λq hq b=>key C (by omega) q b hq
  ·rw [upd_ne e];by_cases k:C=i
   ·subst k;rw[Iq];exact key j (by omega)
   ·rw [upd_ne k];exact h.ap j C (by omega) (by omega) hd
 ·have:=zZ S;have:=h.q;show S.alloc.q<=_;omega
def sO(w0:World)(p tr f kr:Nat)(mb:Nat->Nat)(N:Nat)(g:Nat)(e:Value)(wr:World):Prop :=
 ∃(i:Nat) (S a:St) (X:List (Option Nat)) (h b j:Nat->Nat) (E K:Nat->List En) (own d:Nat->List Nat) (c k:Nat),i+g=N/\e = .int .i64 i/\PT wr X p S a c k/\LM w0 wr X p tr f kr h b mb j E K/\GG S b E own/\GG a b K d/\KA i S a c k E K
def KS1 {w r wr d:World} {X0 U m:List (Option Nat)} {p a k cv:Nat} {S:St} {z J:Nat->Nat} {own:Nat->List Nat} {B:Option Addr} (b5:Below w.heap.size w r) (hl:∀ i,some i∈X0->w.heap.size<=i) (V:Has r a 83 #[.slice none 0 0]) (W:Has r (a+1) 83 #[.slice none 0 0]) (X:Has r (a+1+1) 80 #[.pointer (some ⟨a,0,none⟩),.pointer (some ⟨a+1,0,none⟩)])
 (ha:w.heap.size<=a) (hx:∀ i,some i∈X0->i<a) (mk:Mk r wr X0 U p 2 S z J own (.slice B 2 cv)) (Y:PT d m p S S 1000 k) (C:Turn U m wr d) :
 ∃ tr,B=some ⟨tr,0,none⟩/\LM w (((d.alloc (.cells #[.slice none 0 0] 83)).alloc (.cells #[.slice none 0 0] 83)).alloc (.cells #[.pointer (some ⟨d.heap.size,0,none⟩),.pointer (some ⟨d.heap.size+1,0,none⟩)] 80)) m p tr (a+1+1) (d.heap.size+1+1) z J (λj=>a+j) (λj=>d.heap.size+j) (λ_=>[]) (λ_=>[])/\GG S J (λ_=>[]) own /\
   PT (((d.alloc (.cells #[.slice none 0 0] 83)).alloc (.cells #[.slice none 0 0] 83)).alloc (.cells #[.pointer (some ⟨d.heap.size,0,none⟩),.pointer (some ⟨d.heap.size+1,0,none⟩)] 80)) m p S S 1000 k:=by
 have l:=mk.tu.trans C;obtain⟨K,c2⟩:=(DV.turn l).bel b5 hl (λi L=>by cases L);have z1:=l.size;have z2:=V.lt;have z3:=W.lt;have z4:=X.lt;have G:=Y.lt;have D:=Ag d (.cells #[.slice none 0 0] 83);have M:=Ag (d.alloc (.cells #[.slice none 0 0] 83)) (.cells #[.slice none 0 0] 83);have Z:=Ag ((d.alloc (.cells #[.slice none 0 0] 83)).alloc (.cells #[.slice none 0 0] 83)) (.cells #[.pointer (some ⟨d.heap.size,0,none⟩),.pointer (some ⟨d.heap.size+1,0,none⟩)] 80);have H:=Has.new d 83 #[.slice none 0 0]
 have v:=Has.new (d.alloc (.cells #[.slice none 0 0] 83)) 83 #[.slice none 0 0];have P:=Has.new ((d.alloc (.cells #[.slice none 0 0] 83)).alloc (.cells #[.slice none 0 0] 83)) 80 #[.pointer (some ⟨d.heap.size,0,none⟩),.pointer (some ⟨d.heap.size+1,0,none⟩)];simp only[ED]at v P;have n:=(D.trans (M.mono D.size)).trans (Z.mono (BN D.size M.size));have H:=(H.alloc (.cells #[.slice none 0 0] 83)).alloc (.cells #[.pointer (some ⟨d.heap.size,0,none⟩),.pointer (some ⟨d.heap.size+1,0,none⟩)] 80);have v:=v.alloc (.cells #[.pointer (some ⟨d.heap.size,0,none⟩),.pointer (some ⟨d.heap.size+1,0,none⟩)] 80);clear D M Z
 obtain⟨tr,ht,aa,ac,Q⟩:∃ tr,B=some ⟨tr,0,none⟩/\F9 d tr 31 z/\r.heap.size<=tr/\some tr∉m:=by
  have ho:=mk.ow
  rcases ho.2 with⟨_,e⟩ |⟨g,cap,ab,N,O,I,_⟩
  ·cases e
  ·have e2:B=some ⟨g,0,none⟩:=by injection N
   subst e2;have R:=mk.ox g rfl;refine⟨g,rfl,⟨ab,C.has I R,λj h=>?_⟩,O,C.out R (Has.lt I)⟩
   have hc:=ho.cells (g:=g) rfl j (.pointer (some ⟨z j,0,none⟩)) (by
    unfold ptrs
    rw[GH,YG h];rfl)
   rw[addr_add,FM]at hc;rw[<- Has.cell I];exact hc
 refine⟨tr,ht, ?_,⟨λj h=>mk.ts j h,λq u h1=>mk.ap 0 1 (by omega) (by omega) (by omega) q u h1⟩,Y.below n⟩
 have s:∀ i,a<=i->some i∉X0:=λi L o=>by have:=hx i o;omega
 have k0:=l.has V (s _ (by omega));have k1:=l.has W (s _ (by omega));have kr:=l.has X (s _ (by omega));generalize (((d.alloc (.cells #[.slice none 0 0] 83)).alloc (.cells #[.slice none 0 0] 83)).alloc (.cells #[.pointer (some ⟨d.heap.size,0,none⟩),.pointer (some ⟨d.heap.size+1,0,none⟩)] 80))=E at *
 have T:∀{b:Nat} {x y:Nat} {t:TypeId} {f:Nat->Nat},Has E b t #[.pointer (some ⟨x,0,none⟩),.pointer (some ⟨y,0,none⟩)]->f 0=x->f 1=y->F9 E b t f:=λ{b x y t f} q e0 N=>⟨_,q,λj h=>by
  match j,h with
  | 0,_=>rw[e0];rfl
  | 1,_=>rw[N];rfl⟩
 have F:∀{b:Nat},Has E b 83 #[.slice none 0 0]->some b∉m->∃ A c,MJ E m (badL tr (d.heap.size+1+1) λj=>a+j) b [] A c:=λ{b} q e=>⟨none,0,⟨q,λu=>absurd u (by simp),AY _⟩,e,λu=>absurd u (by simp)⟩
 refine⟨K.trans (n.mono K.size),c2,λb O=>?_,aa.IE (.below n) Q (by simp),T (kr.Ai n) rfl rfl,T P rfl rfl,⟨Q,l.out (s _ (by omega)) z4,λo=>by have:=G _ o;omega⟩,λj h=>((mk.tm j h).turn C).below n,λj h=>?_,λj h=>?_,⟨by omega,by omega,λi j L h=>by omega⟩⟩
 ·have:=K.size;simp[badL]at O;omega
 ·match j,h with
  | 0,_=>exact F (k0.Ai n) (l.out (s _ (by omega)) z2)
  | 1,_=>exact F (k1.Ai n) (l.out (s _ (by omega)) z3)
 ·match j,h with
  | 0,_=>exact F H λo=>by have:=G _ o;omega
  | 1,_=>exact F v λo=>by have:=G _ o;omega
def OW0 (A:Option Addr) (n c:Nat) (ai:List Us) (w:World) (h:Y7 w A n ai) (hc:n<=c) (hB:∀ a∈ai,Y8 a) :
 Calls Tryz.prog 5 #[.slice A n c] w λe w'=>e = .returned (.bool true)/\Below w.heap.size w w':=by
 have HA:=Ac (h.take (k:=min n 250) (by omega));have b8:=Ac (show ∀ a∈ai.take (min n 250),Y8 a from λa ha=>hB a (nD ha));have TS:=Ac (λw1=>CS1 A n c hc w1)
 obtain⟨N,hN⟩:∃ N,min n 250=N:=⟨_,rfl⟩
 have ds:N<=250:=by omega
 obtain⟨al,has⟩:∃ al,ai.take (min n 250)=al:=⟨_,rfl⟩;rw[has]at HA b8;rw[hN]at HA TS;clear h hc hN has hB;go_enter Tryz.func5,Tryz.ntmps5
 go_wp2_with fail
 refine(KH1 w).mono ?_;rintro e w1 ⟨gd,b0,rfl,hp,b9⟩;have OP:=Ac (BL1 hp);have ca:=Ac b9;clear hp b9
 go_wp2_with (first
  |(go_at_call 7;(with_reducible refine OP.out.mono ?_);rintro e o ⟨p,X,rfl,cb,cd⟩;have P3:=Ac cb;have T3:=Ac (ca.trans cd);clear cb cd)
  |(go_at_call 20;refine(Gh _ _).mono ?_;rintro e w1 ⟨rfl,rfl⟩))
 have B3:=Ag o (.cells #[.slice none 0 0] 83);have B4:=Ag (o.alloc (.cells #[.slice none 0 0] 83)) (.cells #[.slice none 0 0] 83);have B5:=Ag ((o.alloc (.cells #[.slice none 0 0] 83)).alloc (.cells #[.slice none 0 0] 83)) (.cells #[.pointer (some ⟨o.heap.size,0,none⟩),.pointer (some ⟨o.heap.size+1,0,none⟩)] 80);have ce:=Has.new o 83 #[.slice none 0 0];have a0:=Has.new (o.alloc (.cells #[.slice none 0 0] 83)) 83 #[.slice none 0 0]
 have a5:=Has.new ((o.alloc (.cells #[.slice none 0 0] 83)).alloc (.cells #[.slice none 0 0] 83)) 80 #[.pointer (some ⟨o.heap.size,0,none⟩),.pointer (some ⟨o.heap.size+1,0,none⟩)];simp only[ED]at a0 a5;have BB:=(B3.trans (B4.mono B3.size)).trans (B5.mono (BN B3.size B4.size));have cf:=Ac ((ce.alloc (.cells #[.slice none 0 0] 83)).alloc (.cells #[.pointer (some ⟨o.heap.size,0,none⟩),.pointer (some ⟨o.heap.size+1,0,none⟩)] 80));have cg:=Ac (a0.alloc (.cells #[.pointer (some ⟨o.heap.size,0,none⟩),.pointer (some ⟨o.heap.size+1,0,none⟩)] 80));have ch:=Ac a5;have P5:=Ac (P3.below BB);have T5:=Ac (T3.next BB);have ci:=Ac (show ∀ i,some i∈X->i<o.heap.size from P3.lt)
 have cj:=Ac T3.size;clear ce a0 a5 B3 B4 B5 BB P3 T3 OP ca;generalize (((o.alloc (.cells #[.slice none 0 0] 83)).alloc (.cells #[.slice none 0 0] 83)).alloc (.cells #[.pointer (some ⟨o.heap.size,0,none⟩),.pointer (some ⟨o.heap.size+1,0,none⟩)] 80))=W5 at *
 go_loopg [6,41] 2 (λF v6 da wr=>RelA W5 X p F v6 da wr)
 case atStart=>exact⟨0,St.first,X,λ_=>0,λ_=>0,λ_=>[],rfl,rfl,⟨P5.more (by omega) (by omega),Turn.refl _ _,JJ _ _ _ _,λg e=>(by cases e),λj b=>absurd b (OM _),λj b=>absurd b (OM _),λj _ b=>absurd b (OM _),AY _⟩⟩
 case round =>
  obtain⟨i,S,X2,G,J,own,L,rfl,C⟩:=hrel;have T:=Ac C;have U:=Ac L;by_cases D:i<2
  ·have aj:(i:Int)<2:=by omega
   obtain⟨Av,cv,rfl,_⟩:=Bg C.ow;have CR:=Ac (FY0 C.pt (by omega) (by omega) (by have:=C.q;omega));obtain⟨nn,a6⟩:∃ n,S.Aj=n:=⟨_,rfl⟩;rw[a6]at CR;have db:=Ac a6;have H:=Ac D;obtain⟨i0,dc,dd,de,df⟩:=IP DQ1;have G1:=Ac (show i+1<=maxLen by unfold maxLen;omega);have G2:=Ac (show(i+1)*8<=140737488355328 by omega);clear C L D a6
   go_wp2_with (first
    |(go_at_call 8;(with_reducible refine CR.out.mono ?_);rintro e w2 ⟨rfl,X4,ck,cl⟩;have P4:=Ac ck;have T4:=Ac cl;clear ck cl)
    |(go_at_call 9;(refine wB.mono ?_);rintro e ae ⟨rfl,a7⟩;have B3:=Ac (show Below w2.heap.size w2 ae from by rw[a7];exact Ag _ _);have N3:=Ac (show Has ae w2.heap.size 111 #[.pointer (some ⟨p,0,none⟩),.int .i64 nn]from by rw[a7];exact Has.new _ _ _);clear a7)
    |(go_at_call 20;refine(Gh _ _).mono ?_;rintro e w1 ⟨rfl,rfl⟩)
    |(at_builtin;(refine Aq _ rfl (.tmp 58) (.tmp 60) 79 79 rfl W5.heap.size 31 i0 _ 1 8 Tryz.underlying79 dc dd de df JT0 (by decide) (.slice Av i cv) i (ptrs G i) rfl ((own_below (Bo T.ow λg L=>T4.block g (T.ow.lt g L).2 (T.ox g L)) B3).alloc _) (.slice (some ⟨ae.heap.size,0,none⟩) 1 1) 1 [.pointer (some ⟨w2.heap.size,0,none⟩)] rfl (IW _ Tryz.underlying79 ⟨ae.heap.size,0,none⟩ 1 1 [.pointer (some ⟨w2.heap.size,0,none⟩)] rfl (JQ (I8 ae _)) (by simp[Value.oneCell'])) G1 G2 (by have:=T.tu.size;have:=T4.size;have:=B3.size;simp;omega) ?_);intro v7 w7 b5 co _ b6;have O7:=Ac b5;have dg:=Ac co;have dh:=Ac b6;clear b5 co b6))
   go_roundg (2-(i+1))
   case rel =>
    obtain⟨di,gQ,q⟩:=T.next H db P4 T4 B3 N3 O7 (Ag _ _) dg dh
    exact⟨i+1,_,X4,_,di,gQ,by have:=H.out;omega,by simp,q⟩
   case measure=>have:=H.out;have:=U.out;omega
  ·obtain rfl:i=2:=by omega
   have aj:¬((2:Nat):Int)<2:=by omega
   obtain⟨Av,cv,rfl,dj⟩:=Bg C.ow;have CM:=Ac (jL C.pt (by omega) (by omega));clear C L D
   go_wp2_with (first
    |(go_at_call 32;(with_reducible refine CM.out.mono ?_);rintro e w6 ⟨rfl,X6,af,ag⟩;have P6:=Ac af;have T6:=Ac ag;clear af ag)
    |(go_at_call 20;refine(Gh _ _).mono ?_;rintro e w1 ⟨rfl,rfl⟩)
    |(go_at_call 21;refine(TS _).mono ?_;rintro e w1 ⟨rfl,rfl⟩))
   obtain⟨tr,rfl,cp,a8,P8⟩:=KS1 (T5.bel (AU _ _) (λk C=>by cases C) (AY _)) (T5.low (λk C=>by cases C) (AY _)) cf cg ch cj ci T P6 T6
   have am:=Ac (show sO w p tr (o.heap.size+1+1) (w6.heap.size+1+1) (λj=>o.heap.size+j) N N (.int .i64 0) _ from
    ⟨0,S,S,X6,G,J,_,_,_,own,own,_,_,by omega,rfl,P8,cp,a8,a8,by omega,by omega,by have:=T.q;omega,by have:=T.q;omega,λj b=>⟨AY _,AY _⟩⟩)
   clear cp a8 P8 cf cg ch P5 T5 ci cj T U CM P6 T6 dj aj TS;generalize (((w6.alloc (.cells #[.slice none 0 0] 83)).alloc (.cells #[.slice none 0 0] 83)).alloc (.cells #[.pointer (some ⟨w6.heap.size,0,none⟩),.pointer (some ⟨w6.heap.size+1,0,none⟩)] 80))=W8 at *
   obtain⟨mb,cq⟩:∃ mb,(λj=>o.heap.size+j)=mb:=⟨_,rfl⟩
   rw[cq]at am;clear cq;generalize o.heap.size+1+1=mr at *;generalize w6.heap.size+1+1=kr at *
   go_loopg [75] N (λF dk wr=>sO w p tr mr kr mb N F dk wr)
   case atStart=>exact am
   case round =>
    clear am;obtain⟨i,S,M,X,G,J,W,E,K,own,ab,c1,O,L,rfl,hp,hl,ht,a9,bb⟩:=hrel;have HP:=Ac hp;have HL:=Ac hl;have HT:=Ac (AV ht a9);have HD:=Ac bb;have U:=Ac L;by_cases D:i<N
    ·have aj:(i:Int)<(N:Int):=by omega
     have cr:i<al.length:=by rw[HA.1];exact D
     obtain⟨Q,Y,rfl,bc,cs⟩:=HA.2 (by omega);have I:=λ(j:Nat) (u:Value) (b:al[i].arr[j]? = some u)=>(hl.be.cell (p:=⟨Q,Y+i*8+j,none⟩) bc).trans (cs i al[i] (DK cr) j u b);have ak:=b8 al[i] (EI _);obtain⟨a,ha⟩:∃ a,al[i]=a:=⟨_,rfl⟩;rw[ha]at ak;simp only[ha]at I;have d0:wr.cell? ⟨Q,Y+i*8,none⟩=some (.int .i64 a.kind):=I 0 _ rfl;have d1:wr.cell? ⟨Q,Y+i*8+1,none⟩=some (.int .i64 a.f):=I 1 _ rfl;have d2:wr.cell? ⟨Q,Y+i*8+2,none⟩=some (.int .i64 a.at_):=I 2 _ rfl;have d3:wr.cell? ⟨Q,Y+i*8+3,none⟩=some (.int .i64 a.n):=I 3 _ rfl
     have d4:wr.cell? ⟨Q,Y+i*8+4,none⟩=some (.string a.s):=I 4 _ rfl;have d5:wr.cell? ⟨Q,Y+i*8+5,none⟩=some (.string a.t):=I 5 _ rfl;have d6:wr.cell? ⟨Q,Y+i*8+6,none⟩=some (.slice a.kA a.kn a.kc):=I 6 _ rfl;have d7:wr.cell? ⟨Q,Y+i*8+7,none⟩=some (.slice a.cA a.cn a.cc):=I 7 _ rfl;have zb:Q<wr.heap.size:=DD bc hl.be.size;have cu:=Ac ak;have PK:=Ac (λw1=>uT a.f 2 ak.2.2 (by omega) (by omega) w1);have bd:=oQ a.f (show 0<2 by omega)
     obtain⟨R,bf⟩:∃ R,RV a.f 2=R:=⟨_,rfl⟩
     rw[bf,show((2:Nat):Int)=2 from rfl]at PK;rw[bf]at bd;have bg:=Ac bd;have B1:=Ag wr (.cells #[.int .i64 a.kind,.int .i64 a.f,.int .i64 a.at_,.int .i64 a.n,.string a.s,.string a.t,.slice a.kA a.kn a.kc,.slice a.cA a.cn a.cc] 61);have P1:=Ac (hp.below B1);have L1:=Ac (hl.turn (.below B1));have AX:=Ac (Has.new wr 61 #[.int .i64 a.kind,.int .i64 a.f,.int .i64 a.at_,.int .i64 a.n,.string a.s,.string a.t,.slice a.kA a.kn a.kc,.slice a.cA a.cn a.cc]);have XN:=Ac (show some wr.heap.size∉X from λhm=>by have:=hp.lt _ hm;omega);have H:=Ac D;clear I cs bc cr ha ak hp hl ht a9 bb L D bf bd B1 HP HL
     go_upto_region 23 with fail
     generalize wr.alloc (.cells #[.int .i64 a.kind,.int .i64 a.f,.int .i64 a.at_,.int .i64 a.n,.string a.s,.string a.t,.slice a.kA a.kn a.kc,.slice a.cA a.cn a.cc] 61)=W1 at *;obtain⟨z,hz⟩:∃ z,wr.heap.size=z:=⟨_,rfl⟩;have HZ:=Ac hz;rw[hz]at AX XN ⊢;clear hz;have f1:=AX.cell 1;have fz:=AX.lt
     go_upto_region 24 with(go_at_call 33;refine(PK _).mono ?_;rintro e w1 ⟨rfl,rfl⟩)
     have k0:(0:Int)<=(R:Int):=by omega
     have k2:(R:Int)<2:=by have:=bg.out;omega
     have ah:=Ac (show i<=250 by have:=H.out;omega);clear f1 fz PK
     go_cut [111]from 82 to 110 (λac wx=>ac = .bool false/\Xb w p tr mr kr R z #[.int .i64 a.kind,.int .i64 a.f,.int .i64 a.at_,.int .i64 a.n,.string a.s,.string a.t,.slice a.kA a.kn a.kc,.slice a.cA a.cn a.cc] G J mb W E K S M c1 O a.kind wx)
     case first =>
      rename_i hJ hM;by_cases h7:a.kind=7
      ·exact MK1 w W1 X p tr mr kr z R i cv c1 O G J mb W E K own ab S M a _ _ _ _ _ _ _ _ _ _ _ _ _ _ _ _ _ _ _ _ _ _ _ _ _ _ _ _ _ _ _ _ _ _ _ _ _ _ _ _ _ _ _ _ _ _ _ _ _ _ _ _ _ _ _ _ _ _ _ _ _ _ _ _ _ _ _ _ _ _ _ _ _ _ _ _ _ _ _ _ _ _ _ _ _ _ _ _ _ _ _ _ _ _ _ _ _ _ _ _ _ _ _ _ _ _ _ _ _ _ _ _ _ _ _ _ _ _ _ _ _ _ _ _ _ _ _ _ _ _ _ _ _ _ _ _ _ _ _ _ _ _ _ _ _ _ _ _ _ _ _ _ _ _ _ _ _ _ _ _ _ _ _ _ _ _ _ _ _ _ _ _ _ _ _ _ _ P1 L1 AX XN HT HD cu bg ah h7 (λwx bh bi bj bk bl bm bn bo bp bq br bs bt bu bv bw bx bz an ao ap aq ar au av aw ax ay az ac h=>hM _ _ (Met.intro (hJ _ _ ⟨bh,bi,bj,bk,bl,bm,bn,bo,bp,bq,br,bs,bt,bu,bv,bw,bx,bz,an,ao,ap,aq,ar,au,av,aw,ax,ay,az,ac,h,rfl⟩)))
      ·exact NT1 w W1 X p tr mr kr z R i cv c1 O G J mb W E K own ab S M a _ _ _ _ _ _ _ _ _ _ _ _ _ _ _ _ _ _ _ _ _ _ _ _ _ _ _ _ _ _ _ _ _ _ _ _ _ _ _ _ _ _ _ _ _ _ _ _ _ _ _ _ _ _ _ _ _ _ _ _ _ _ _ _ _ _ _ _ _ _ _ _ _ _ _ _ _ _ _ _ _ _ _ _ _ _ _ _ _ _ _ _ _ _ _ _ _ _ _ _ _ _ _ _ _ _ _ _ _ _ _ _ _ _ _ _ _ _ _ _ _ _ _ _ _ _ _ _ _ _ _ _ _ _ _ _ _ _ _ _ _ _ _ _ _ _ _ _ _ _ _ _ _ _ _ _ _ _ _ _ _ _ _ _ _ _ _ _ _ _ _ _ _ _ _ _ _ P1 L1 AX XN HT HD cu bg ah h7 (λwx bh bi bj bk bl bm bn bo bp bq br bs bt bu bv bw bx bz an ao ap aq ar au av aw ax ay az ac h=>hM _ _ (Met.intro (hJ _ _ ⟨bh,bi,bj,bk,bl,bm,bn,bo,bp,bq,br,bs,bt,bu,bv,bw,bx,bz,an,ao,ap,aq,ar,au,av,aw,ax,ay,az,ac,h,rfl⟩)))
     case rest =>
     obtain⟨rfl,Z,c8,cw,cx⟩:=hcut;have aa:=Ac cw;have cy:=Ac cx;clear P1 L1 AX XN k0 k2 cw cx
     rcases c8 with⟨c2,S',c3,c4,E',own',q1,q2,q3,q4,q5⟩ |⟨h8,q1,q2⟩ |⟨h6,h7,h8,S',E',own',q1,q2,q3,q4,q5⟩
     ·have V:=Ac (AV q3 (AV q4 q5));have Q1:=Ac q1;have Q2:=Ac q2;have dl:=Ac c2;clear q1 q2 q3 q4 q5 c2
      go_wp2_with fail
      go_loopg [114] 2 (λF ad wx=>∃(j:Nat) (b1:Nat->Nat) (K':Nat->List En),j+F=2/\ad = .int .i64 j/\PT wx Z p S' S' 1000 (O+150000)/\LM w wx Z p tr mr kr c3 c4 mb b1 E' K'/\Has wx z 61 #[.int .i64 a.kind,.int .i64 a.f,.int .i64 a.at_,.int .i64 a.n,.string a.s,.string a.t,.slice a.kA a.kn a.kc,.slice a.cA a.cn a.cc]/\∀ i,i<j->K' i=E' i)
      case atStart=>exact⟨0,W,K,rfl,rfl,Q1,Q2,aa,λi D=>absurd D (OM _)⟩
      case round =>
       obtain⟨j,b1,K',b,rfl,v,l,r,r4⟩:=hrel;clear Q1 Q2 aa;have R1:=Ac v;have R2:=Ac l;have R3:=Ac r;have R4:=Ac r4;have HJ:=Ac b;by_cases m:j<2
       ·have x:=Ac m
        have j1:(j:Int)<2:=by omega
        have j0:(0:Int)<=(j:Int):=by omega
        have cz:=r.lt;have n0:=l.m0.cell m;have nz:=l.m0.lt;obtain⟨Am,cm,y⟩:=l.mp j m;have s0:=y.1.has.cell 0;have sz:=y.1.has.lt;have g0:=l.k0.cell m;have gz:=l.k0.lt;have gf:=l.k0.frozen j;have KS:=Ac (GU1 v l r cy r4 m y);clear b m v l r4 y
        rcases dl with e | e
        ·have c0:wr.cell? ⟨z,0,none⟩=some (.int .i64 6):=by rw [r.cell 0];rw [<- e];rfl
         clear r
         go_wp2_with fail
         go_roundg (2-(j+1))
         case rel =>
          obtain⟨b2,K2,a1,a2,a3,a4⟩:=KS.out;exact⟨j+1,b2,K2,by have:=x.out;omega,by simp,a1,a2,a3,a4⟩
         case measure=>have:=HJ.out;have:=x.out;omega
        ·have c0:wr.cell? ⟨z,0,none⟩=some (.int .i64 7):=by rw [r.cell 0];rw [<- e];rfl
         clear r
         go_wp2_with fail
         go_roundg (2-(j+1))
         case rel =>
          obtain⟨b2,K2,a1,a2,a3,a4⟩:=KS.out;exact⟨j+1,b2,K2,by have:=x.out;omega,by simp,a1,a2,a3,a4⟩
         case measure=>have:=HJ.out;have:=x.out;omega
       ·obtain rfl:j=2:=by omega
        have j1:¬((2:Nat):Int)<2:=by omega
        clear b m v l r r4
        go_wp2_with fail
        go_roundg (N-(i+1))
        case rel =>
         have B:=HD.out;unfold KA at B;have b7:=ah.out
         exact⟨i+1,S',S',Z,c3,c4,b1,E',K',own',own',1000,O+150000,by have:=H.out;have:=U.out;omega,by simp,R1,R2,V.1,V.1.congr λj b=>(R4 j b).symm,by omega,by omega,by have:=V.2.1;omega,by have:=V.2.1;omega,λj b=>by
          have e1:=V.2.2 j b;have e2:=(B.2.2.2.2 j b).1;rw[R4.out j b]
          omega⟩
        case measure=>have:=H.out;have:=U.out;omega
     ·have Q1:=Ac q1;have Q2:=Ac q2;have H8:=Ac h8;clear q1 q2 h8
      go_wp2_with fail
      go_loopg [114] 2 (λF ad wx=>∃(j:Nat) (E':Nat->List En),j+F=2/\ad = .int .i64 j/\PT wx Z p M M 1000 (O+150000)/\LM w wx Z p tr mr kr G J mb W E' K/\Has wx z 61 #[.int .i64 a.kind,.int .i64 a.f,.int .i64 a.at_,.int .i64 a.n,.string a.s,.string a.t,.slice a.kA a.kn a.kc,.slice a.cA a.cn a.cc]/\∀ i,i<j->E' i=K i)
      case atStart=>exact⟨0,E,rfl,rfl,Q1,Q2,aa,λi D=>absurd D (OM _)⟩
      case round =>
       obtain⟨j,E',b,rfl,v,l,r,r4⟩:=hrel;clear Q1 Q2 aa;have R1:=Ac v;have R2:=Ac l;have R4:=Ac r4;have HJ:=Ac b;by_cases m:j<2
       ·have x:=Ac m
        have j1:(j:Int)<2:=by omega
        have j0:(0:Int)<=(j:Int):=by omega
        have cz:=r.lt;have n0:=l.m0.cell m;have nz:=l.m0.lt;obtain⟨Am,cm,y⟩:=l.kp j m;have s0:=y.1.has.cell 0;have sz:=y.1.has.lt;have g0:=l.k0.cell m;have gz:=l.k0.lt;obtain⟨At,ct,t1⟩:=l.mp j m;have t0:=t1.1.has.cell 0;have tz:=t1.1.has.lt;have tf:=t1.1.has.frozen 0;have KS:=Ac (DL1 v l r cy r4 m y)
        have c0:wr.cell? ⟨z,0,none⟩=some (.int .i64 8):=by rw[r.cell 0];rw[<- H8.out];rfl
        clear b m v l r r4 y t1
        go_upto_region 34 with fail
        go_region
        go_wp2_with fail
        go_roundg (2-(j+1))
        case rel =>
         obtain⟨E2,a1,a2,a3,a4⟩:=KS;exact⟨j+1,E2,by have:=x.out;omega,by simp,a1.below ((AU _ _).drew),a2.turn (.below ((AU _ _).drew)),a3.Ai ((AU _ _).drew),a4⟩
        case measure=>have:=HJ.out;have:=x.out;omega
       ·obtain rfl:j=2:=by omega
        have j1:¬((2:Nat):Int)<2:=by omega
        clear b m v l r r4
        go_wp2_with fail
        go_roundg (N-(i+1))
        case rel =>
         have B:=HD.out;unfold KA at B;have b7:=ah.out
         exact⟨i+1,M,M,Z,G,J,W,E',K,ab,ab,1000,O+150000,by have:=H.out;have:=U.out;omega,by simp,R1,R2,HT.2.congr λj b=>(R4 j b).symm,HT.2,by omega,by omega,by omega,by omega,λj b=>by
          have e2:=(B.2.2.2.2 j b).2;rw[R4.out j b]
          omega⟩
        case measure=>have:=H.out;have:=U.out;omega
     ·have V:=Ac (AV q3 (AV q4 q5));have Q1:=Ac q1;have Q2:=Ac q2;have G6:=Ac (AV h6 (AV h7 h8));clear q1 q2 q3 q4 q5 h6 h7 h8
      go_wp2_with fail
      go_loopg [114] 2 (λF ad wx=>∃(j:Nat),j+F=2/\ad = .int .i64 j/\PT wx Z p S' M (c1+120) (O+12000)/\LM w wx Z p tr mr kr G J mb W (upd E R E') K/\Has wx z 61 #[.int .i64 a.kind,.int .i64 a.f,.int .i64 a.at_,.int .i64 a.n,.string a.s,.string a.t,.slice a.kA a.kn a.kc,.slice a.cA a.cn a.cc])
      case atStart=>exact⟨0,rfl,rfl,Q1,Q2,aa⟩
      case round =>
       obtain⟨j,b,rfl,v,l,r⟩:=hrel;clear Q1 Q2 aa;have R1:=Ac v;have R2:=Ac l;have R3:=Ac r;have HJ:=Ac b;by_cases m:j<2
       ·have x:=Ac m
        have j1:(j:Int)<2:=by omega
        have j0:(0:Int)<=(j:Int):=by omega
        have cz:=r.lt;have c0:wr.cell? ⟨z,0,none⟩=some (.int .i64 a.kind):=r.cell 0;obtain⟨h6,h7,h8⟩:=G6;clear b m v l r
        go_wp2_with fail
        go_roundg (2-(j+1))
        case rel=>exact⟨j+1,by have:=x.out;omega,by simp,R1,R2,R3⟩
        case measure=>have:=HJ.out;have:=x.out;omega
       ·obtain rfl:j=2:=by omega
        have j1:¬((2:Nat):Int)<2:=by omega
        clear b m v l r
        go_wp2_with fail
        go_roundg (N-(i+1))
        case rel =>
         have B:=HD.out;unfold KA at B;have b7:=ah.out
         exact⟨i+1,S',M,Z,G,J,W,upd E R E',K,own',ab,c1+120,O+12000,by have:=H.out;have:=U.out;omega,by simp,R1,R2,V.1,HT.2,by omega,by omega,by have:=V.2.1;omega,by omega,λj b=>by
          have e1:=V.2.2;have e2:=B.2.2.2.2 j b;by_cases e:j=R
          ·subst e;rw[Iq];omega
          ·rw[upd_ne e];omega⟩
        case measure=>have:=H.out;have:=U.out;omega
    ·have dm:i=N:=by omega
     subst dm
     have aj:¬((i:Nat):Int)<((i:Nat):Int):=by omega
     clear hp hl ht a9 bb L D
     go_wp2_with fail
     go_loopg [153] 2 (λF c9 wx=>∃(j:Nat) (X':List (Option Nat)) (k':Nat),j+F=2/\c9 = .int .i64 j/\k'<=41000000+10000*j/\PT wx X' p S M c1 k'/\LM w wx X' p tr mr kr G J mb W E K)
     case atStart =>
      have B:=HD.out;unfold KA at B;exact⟨0,X,O,rfl,rfl,by omega,HP,HL⟩
     case round =>
      obtain⟨j,X',k',b,rfl,b3,v,l⟩:=hrel;clear HP HL;have HJ:=Ac b;by_cases m:j<2
      ·have B:=HD.out;unfold KA at B;have x:=Ac m;have dn:=Ac b3
       have j1:(j:Int)<2:=by omega
       have j0:(0:Int)<=(j:Int):=by omega
       have n0:=l.t0.cell m;have nz:=l.t0.lt;obtain⟨x0,Ds,P,t1,t2,t3⟩:=HT.1.1 j m;have dp:=(B.2.2.2.2 j m).1;have SC:=wY (fr:=[]) (tk:=[]) (most:=-1) v (l.tm j m) (by omega) (by omega) (by omega) (by omega) t1 t2;rw[GV1,show AQ []={ data:=#[] }from rfl]at SC;have SC:=Ac SC;have BQ:=Ac (show 30+4*(E j).length+S.q<=10000 by omega);have c5:=Ac (show(E j).length<=1000000 by omega);have R2:=Ac l;clear B b m b3 v l t1 t2 t3 dp
       go_wp2_with (first
        |(go_at_call 36;(with_reducible refine SC.out.mono ?_);rintro en dt ⟨v6,dq,rfl,b4,af,ag,dr⟩;obtain⟨A6,c6,rfl,_⟩:=Bg b4;have P6:=Ac af;have R6:=Ac (R2.turn (.turn ag));have n1:=R6.m0.cell x;have du:=R6.m0.lt;obtain⟨Am,cm,y⟩:=R6.mp j x;have s0:=y.1.has.cell 0;have sz:=y.1.has.lt;have SE:=Ac (Wy (c:=c6) (d:=cm) (FV.Ed b4 rfl) y.1.rd rfl rfl c5 c5);clear b4 af ag dr y)
        |(go_at_call 37;(with_reducible refine SE.out.mono ?_);rintro en w7 ⟨rfl,c7⟩;have B7:=Ac c7;have e7:decide (E j=E j)=true:=(by simp);clear c7)
        |(go_at_call 20;refine(Gh _ _).mono ?_;rintro e w1 ⟨rfl,rfl⟩))
       go_roundg (2-(j+1))
       case rel=>exact⟨j+1,dq,_,by have:=x.out;omega,by simp,by have:=dn.out;have:=BQ.out;omega,P6.below B7,R6.turn (.below B7)⟩
       case measure=>have:=HJ.out;have:=x.out;omega
      ·obtain rfl:j=2:=by omega
       have j1:¬((2:Nat):Int)<2:=by omega
       have BE:=Ac l.be;clear b m b3 v l
       go_wp2_with fail
       go_ret;exact⟨rfl,BE⟩
end Go.Proofs.YtjihboddejaelaaGreat
