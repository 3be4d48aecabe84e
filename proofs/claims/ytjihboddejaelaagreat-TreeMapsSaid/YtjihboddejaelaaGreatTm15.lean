/-
  Package tree: split.
-/
import Derived.Test.YtjihboddejaelaaGreatTm1
import Derived.Test.YtjihboddejaelaaGreatTm14
import Derived.Test.YtjihboddejaelaaGreatTm7
import Derived.RegionTactic
import Derived.BigRegion
import Derived.Deep.RegionHeld3
import Derived.Deep.LoopGhost
set_option linter.unusedVariables false
set_option linter.unusedSimpArgs false
set_option linter.defProp false
set_option maxRecDepth 100000
set_option maxHeartbeats 100000000
namespace Go.Proofs.YtjihboddejaelaaGreat
open Go.RowKit Go.BigFrame
def Has.FT{w:World}{g g':Nat}{t:TypeId}{cs:Array Value}{x y z u:Value}(h:Has w g t cs)(a:g≠g'):Has ((((w.setCell ⟨g',0,none⟩ x).setCell ⟨g',1,none⟩ y).setCell ⟨g',2,none⟩ z).setCell ⟨g',3,none⟩ u) g t cs:=(((h.far (p:=⟨g',0,none⟩) a x).far (p:=⟨g',1,none⟩) a y).far (p:=⟨g',2,none⟩) a z).far (p:=⟨g',3,none⟩) a u
def Ld{w:World}{g g' i:Nat}{v x y z u:Value}(h:w.cell? ⟨g,i,none⟩=some v)(b:g≠g'):((((w.setCell ⟨g',0,none⟩ x).setCell ⟨g',1,none⟩ y).setCell ⟨g',2,none⟩ z).setCell ⟨g',3,none⟩ u).cell? ⟨g,i,none⟩=some v:=by
 refine(lW (a:=⟨g,i,none⟩) ?_).trans h;exact(CX _ _ _ _ b).trans ((CX _ _ _ _ b).trans ((CX _ _ _ _ b).trans (CX _ _ _ _ b)))
def XD{w:World}{a n k:Nat}{e:TypeId}{v:Value}{xs:List Value}(h:w.ownsRow a e k v n xs):w.drew.ownsRow a e k v n xs:=h
def Ul{w:World}{a:Addr}{v:Value}(h:w.cell? a=some v):w.drew.cell? a=some v:=h
def vX{w:World}{g j n i:Nat}{o p:TypeId}{a b c d e f h k v:Value}(l:Has w g o #[a,b,c,d])(m:Has w j p #[e,f,h,k])(q:w.cell? ⟨n,i,none⟩=some v):w.cell? ⟨g,0,none⟩=some a/\w.cell? ⟨g,1,none⟩=some b/\w.cell? ⟨g,2,none⟩=some c/\w.cell? ⟨g,3,none⟩=some d/\w.cell? ⟨j,0,none⟩=some e/\w.cell? ⟨j,1,none⟩=some f/\w.cell? ⟨j,2,none⟩=some h/\w.cell? ⟨j,3,none⟩=some k/\w.cell? ⟨n,i,none⟩=some v :=
 ⟨l.cell 0,l.cell 1,l.cell 2,l.cell 3,m.cell 0,m.cell 1,m.cell 2,m.cell 3,q⟩
def Si{B g:Nat}{w w':World}{x y z u:Value}(h:Below B w w')(a:B<=g):Below B w ((((w'.setCell ⟨g,0,none⟩ x).setCell ⟨g,1,none⟩ y).setCell ⟨g,2,none⟩ z).setCell ⟨g,3,none⟩ u):=(((h.setCell (p:=⟨g,0,none⟩) a x).setCell (p:=⟨g,1,none⟩) a y).setCell (p:=⟨g,2,none⟩) a z).setCell (p:=⟨g,3,none⟩) a u
def kF:∀ (l:List It) (h i:Nat),h<=Ak l->i<=l.length->(Ak (l.take i)<h↔i<cutAt h l)
 | [],h,i,hu,_=>by
   have:h=0:=by simpa[Ak]using hu
   subst this;simp[cutAt]
 | a :: l,h,0,hu,_=>by
   unfold cutAt;by_cases b:h=0
   ·rw[AC b];simp[Ak,b]
   ·rw[AO b];simp[Ak];omega
 | a :: l,h,i+1,hu,hi=>by
   have c:0<CO a:=by unfold CO;omega
   unfold cutAt;rw[DY,Dn];by_cases b:h=0
   ·rw[AC b];omega
   ·rw [AO b];by_cases d:h<=CO a
    ·have:cutAt (h-CO a) l=0:=by rw [show h-CO a=0 by omega];cases l <;> simp [cutAt]
     rw[this];omega
    ·have:=kF l (h-CO a) i (by rw [Dn] at hu;omega) (by simpa using hi);omega
def HJ0 {w:World} {n l m c:Nat} {A:Option Addr} {a:List It} (tv:Value) (h:SS w A m (a.map Af)) (hw:IU a) (hm:m<=1000) (bq:m<=c) (hc:c<=9223372036854775807) (h0:0<cutAt (Ak a / 2) a) (G:cutAt (Ak a / 2) a<m) (hu:Ak a<=100000) :
 Calls Tryz.prog 143 #[tv,.agg #[.int .i64 n,.int .i64 1,.int .i64 l,.slice A m c]] w λe w'=>∃ va vb,e = .returned (.tuple #[.agg #[.int .i64 n,.int .i64 1,.int .i64 l,va],.string (AQ (a.getD (cutAt (Ak a / 2) a) ⟨[],[]⟩).k),.agg #[.int .i64 n,.int .i64 1,.int .i64 l,vb]]) /\
  w'.ownsRow w.heap.size 9 1 va (cutAt (Ak a / 2) a) (strs ((a.take (cutAt (Ak a / 2) a)).map Af))/\w'.ownsRow w.heap.size 9 1 vb (m-cutAt (Ak a / 2) a) (strs ((a.drop (cutAt (Ak a / 2) a)).map Af))/\(∀ g,va.ownBlock=some g->vb.ownBlock≠some g)/\Below w.heap.size w w':=by
 obtain⟨hl,aa⟩:=ZB h;obtain⟨b,off,rfl,hb,al⟩:=aa (by omega);have CI:=Ac (λi (hi:i<=a.length)=>kF a (Ak a / 2) i (by omega) hi);have HS:=Ac h;have HC:=Ac al;have S:=Ac hl;have US:=Ac (λW (h:SS W (some ⟨b,off,none⟩) m (a.map Af))=>Jm (some ⟨b,off,none⟩) m c (a.map Af) W h (by omega) (by rw[Ib];omega));rw[Ib]at US;obtain⟨J,am⟩:∃ J,cutAt (Ak a / 2) a=J:=⟨_,rfl⟩;rw[am]at CI h0 G ⊢;obtain⟨us,an⟩:∃ us,Ak a=us:=⟨_,rfl⟩;rw[an]at US CI hu;have HW:=Ac hw;clear h aa al hl am an hw;go_enter Tryz.func143,Tryz.ntmps143
 go_wp2_with fail
 have H:=Has.new w 116 #[.int .i64 n,.int .i64 1,.int .i64 l,.slice (some ⟨b,off,none⟩) m c];have B0:=Ag w (.cells #[.int .i64 n,.int .i64 1,.int .i64 l,.slice (some ⟨b,off,none⟩) m c] 116)
 have z0:(w.alloc (.cells #[.int .i64 n,.int .i64 1,.int .i64 l,.slice (some ⟨b,off,none⟩) m c] 116)).heap.size=w.heap.size+1:=by simp
 generalize w.alloc (.cells #[.int .i64 n,.int .i64 1,.int .i64 l,.slice (some ⟨b,off,none⟩) m c] 116)=T at *;have U:=Has.new T 116 #[.int .i64 0,.int .i64 0,.int .i64 0,.slice none 0 0];have K:=Ag T (.cells #[.int .i64 0,.int .i64 0,.int .i64 0,.slice none 0 0] 116)
 have z1:(T.alloc (.cells #[.int .i64 0,.int .i64 0,.int .i64 0,.slice none 0 0] 116)).heap.size=w.heap.size+1+1:=by simp[z0]
 replace H:=H.Ai K;replace K:=Ap B0 K B0.size;rw[z0]at U;generalize T.alloc (.cells #[.int .i64 0,.int .i64 0,.int .i64 0,.slice none 0 0] 116)=V at *;have R2:=Has.new V 116 #[.int .i64 0,.int .i64 0,.int .i64 0,.slice none 0 0];have C:=Ag V (.cells #[.int .i64 0,.int .i64 0,.int .i64 0,.slice none 0 0] 116)
 have z2:(V.alloc (.cells #[.int .i64 0,.int .i64 0,.int .i64 0,.slice none 0 0] 116)).heap.size=w.heap.size+1+1+1:=by simp[z1]
 replace H:=H.Ai C;replace U:=U.Ai C;replace C:=Ap K C K.size;rw[z1]at R2;generalize V.alloc (.cells #[.int .i64 0,.int .i64 0,.int .i64 0,.slice none 0 0] 116)=W at *;clear B0 K z0 z1 V T;refine(US W (HS.keep C)).mono ?_;rintro en w' ⟨rfl,rfl⟩;obtain⟨o,r,s,t⟩:=H.cells4;have BW:=Ac C;have CW:=Ac (λi (hi:i<a.length)=>((Yj C).1 b (off+i) hb).trans (HC i hi));have ad:=Ac H;have N:=Ac U;have O:=Ac R2;clear C H U R2 HC z2
 go_wp2_with fail
 go_loop [8,9] (λi u=>∃ k q:Nat,k<=J/\i = .int .i64 k/\u = .int .i64 q/\Hid (q=Ak (a.take k))) (λi _=>J-(intOf i).toNat)
 case atStart=>exact⟨0,0,BR _,rfl,rfl,Ac rfl⟩
 case round =>
  obtain⟨k,q,hk,rfl,rfl,hq⟩:=hrel;have P:=CI k (by rw[S.out];omega);rw[<- hq.out]at P;by_cases ae:k<J
  ·have af:k<a.length:=by rw [S.out];omega
   have aa:=CW k af;have az:=P.2 ae
   have ao:Hid (Ak (a.take (k+1))=q+(4+(Af a[k]).size)):=Ac (by
    rw[JS af,Ff,<- hq.out,Dn,Hf,<- iO];omega)
   have a4:(Af a[k]).size<=5400:=by
    have:=HW a[k] (EI _);rw[Nr];omega
   have br:k<m:=by omega
   obtain⟨v,f⟩:∃ v,Af a[k]=v:=⟨_,rfl⟩;rw[f]at aa ao a4;clear f af P
   go_wp2_with fail
   go_round
   case rel=>exact⟨k+1,q+(4+v.size),by omega,by go_num,by go_num,Ac ao.symm⟩
   case measure=>simp[intOf];omega
  ·obtain rfl:k=J:=by omega
   have az:¬(q:Int)<(us:Int) / 2:=by
    have:=mt P.1 ae;omega
   clear P ae
   go_upto_region 6 with fail
   go_cut [30,31] (λ_ _ wx=>Has wx (w.heap.size+1) 116 #[.int .i64 n,.int .i64 1,.int .i64 l,.slice (some ⟨b,off,none⟩) m c]/\Has wx (w.heap.size+1+1) 116 #[.int .i64 n,.int .i64 1,.int .i64 l,.slice (some ⟨b,off,none⟩) m c]/\Has wx w.heap.size 116 #[.int .i64 n,.int .i64 1,.int .i64 l,.slice (some ⟨b,off,none⟩) m c]/\Below w.heap.size w wx)
   case first =>
    obtain⟨bs,bt,bu,bv⟩:=N.cells4;obtain⟨bw,bx,bz,b4⟩:=O.cells4;have f1:=N.frozen;have f2:=O.frozen;have D:=N.lt;have E:=O.lt;clear o r s t;obtain⟨o,r,s,t⟩:=ad.cells4
    go_region
    go_wp2_with fail
    go_meet;exact⟨(N.FU.FT (by omega)).drew,((O.FT (by omega)).FU).drew,((ad.FT (by omega)).FT (by omega)).drew,(Si (Si BW (by omega)) (by omega)).drew⟩
   case rest =>
    obtain⟨T1,T2,T0,TB⟩:=hcut;have LF:=Ac (λW=>Pz n l (.slice (some ⟨b,off,none⟩) m c) W);have a5:=Ac (λW (h:SS W (some ⟨b,off,none⟩) k ((a.take k).map Af))=>Kv (A:=some ⟨b,off,none⟩) (c:=c) h (by omega));have a6:=Ac (λW (h:SS W (some ⟨b,off+k,none⟩) (m-k) ((a.drop k).map Af))=>Kv (A:=some ⟨b,off+k,none⟩) (c:=c-k) h (by omega))
    have a7:=Ac (λW (hb2:Below w.heap.size w W)=>(show SS W (some ⟨b,off,none⟩) k ((a.take k).map Af)from by
     have hs:=HS.keep hb2;refine⟨by simp[S.out];omega,λhn=>?_⟩;obtain⟨b',ak,e1,e2,e3⟩:=hs.2 (by omega);refine⟨b',ak,e1,e2,λi v f=>e3 i v ?_⟩;rw[QX]at f
     have a8:i<k:=by have:=(C9.1 f).1;simp at this;omega
     rw[GZ,AC a8]at f;exact f))
    have a9:=Ac (λW (hb2:Below w.heap.size w W)=>(show SS W (some ⟨b,off+k,none⟩) (m-k) ((a.drop k).map Af)from by
     have hs:=HS.keep hb2;refine⟨by simp[S.out],λhn=>?_⟩;obtain⟨b',ak,e1,e2,e3⟩:=hs.2 (by omega)
     cases e1
     refine⟨b,off+k,rfl,e2,λi v f=>?_⟩;rw[MW,IX]at f;rw[TA]
     exact e3 (k+i) v f))
    have ba:=Ac T1;have bb:=Ac T2;have bc:=Ac T0;have ap:=Ac TB;have D:=T1.lt;have E:=T2.lt;clear o r s t ad N O BW CW;obtain⟨o,r,s,t⟩:=T0.cells4;clear T0 T1 T2 TB
    have i1:k<=c:=by omega
    have i2:k<c:=by omega
    have i3:(k:Int)<=(m:Int):=by omega
    go_wp2_with (first
     |(go_at_call 130;refine(LF _).mono ?_;rintro en w1 ⟨rfl,Q⟩;have P1:=Ac (ba.Ai Q);have X:=Ac (bb.Ai Q);have P0:=Ac (bc.Ai Q);have Y:=Ac (Ap ap Q ap.size);clear o r s t Q D E;obtain⟨o,r,s,t⟩:=P0.cells4;have D:=P1.lt;have E:=X.lt)
     |(go_at_call 198;(with_reducible refine(a5.out _ (a7.out _ Y.out)).mono ?_);rintro en w2 ⟨va,rfl,ag,hb2⟩;obtain⟨A2,c2,rfl,_⟩:=Bg ag;have L:=Ac ag;have Z:=Ac (P1.Ai hb2);have Q2:=Ac (X.Ai hb2);have Q0:=Ac (P0.Ai hb2);have QB:=Ac (Ap Y hb2 Y.size);clear o r s t hb2 ag D E;obtain⟨o,r,s,t⟩:=Q0.cells4;obtain⟨be,bf,bg,bh⟩:=Z.cells4;have D:=Z.lt;have E:=Q2.lt;have f1:=Z.frozen)
     |(go_at_call 198;(with_reducible refine(a6.out _ (a9.out _ (QB.out.setCell (p:=⟨w.heap.size+1,3,none⟩) (EZ _) (.slice A2 k c2)))).mono ?_);rintro en w3 ⟨vb,rfl,ah,I⟩;obtain⟨B,d,rfl,_⟩:=Bg ah;have O3:=Ac ah;have S1:=Ac ((Z.set 3 (.slice A2 k c2)).Ai I);have S2:=Ac ((Q2.far (p:=⟨w.heap.size+1,3,none⟩) (by simp) (.slice A2 k c2)).Ai I);have S0:=Ac ((Q0.far (p:=⟨w.heap.size+1,3,none⟩) (by simp) (.slice A2 k c2)).Ai I);have SB:=Ac (Ap (QB.setCell (p:=⟨w.heap.size+1,3,none⟩) (EZ _) (.slice A2 k c2)) I (by simpa using QB.size));have aq:=Ac I;clear o r s t be bf bg bh I ah D E f1;obtain⟨o,r,s,t⟩:=S0.cells4;obtain⟨bi,bj,bk,bl⟩:=S2.cells4;have D:=S1.lt;have E:=S2.lt;have f2:=S2.frozen))
    have U1:=S1.far (p:=⟨w.heap.size+1+1,3,none⟩) (by simp) (.slice B (m-k) d);have U2:=S2.set 3 (.slice B (m-k) d);have UB:=SB.setCell (p:=⟨w.heap.size+1+1,3,none⟩) (by show w.heap.size<=w.heap.size+1+1;omega) (.slice B (m-k) d)
    have b5:w.heap.size+1+1<w2.heap.size:=by have:=Q2.lt;exact this
    have V2:(w3.setCell ⟨w.heap.size+1+1,3,none⟩ (.slice B (m-k) d)).ownsRow w.heap.size 9 1 (.slice A2 k c2) k (strs ((a.take k).map Af)):=own_base (b:=w.heap.size) (Bo L (λg F=>by
     have G:=(L.lt g F).1;have M:=(L.lt g F).2;have h3:w.heap.size+1+1<w1.heap.size:=X.lt;have q1:=CX w3 ⟨w.heap.size+1+1,3,none⟩ (.slice B (m-k) d) g (by show g≠w.heap.size+1+1;omega);have q2:=aq.block g (by simpa using M);have q3:=CX w2 ⟨w.heap.size+1,3,none⟩ (.slice A2 k c2) g (by show g≠w.heap.size+1;omega)
     exact q1.trans (q2.trans q3))) (by have:=Y.size;omega)
    have V3:(w3.setCell ⟨w.heap.size+1+1,3,none⟩ (.slice B (m-k) d)).ownsRow (w.heap.size+1+1+1) 9 1 (.slice B (m-k) d) (m-k) (strs ((a.drop k).map Af)):=own_base (b:=w.heap.size+1+1+1) (Bo O3 (λg F=>by
     have G:=(O3.lt g F).1
     exact CX w3 ⟨w.heap.size+1+1,3,none⟩ (.slice B (m-k) d) g (by show g≠w.heap.size+1+1;simp at G;omega))) (by simp;omega)
    have BA:=Ac (λg (F:(Value.slice A2 k c2).ownBlock=some g)=>(show w.heap.size+1+1<g from by
     have G:=(L.lt g F).1;have h3:w.heap.size+1+1<w1.heap.size:=X.lt
     omega))
    have V4:∀ g,(Value.slice A2 k c2).ownBlock=some g->(Value.slice B (m-k) d).ownBlock≠some g:=λg F e=>by
     have G:=(L.lt g F).2;have M:=(O3.lt g e).1;simp at M;omega
    generalize w3.setCell ⟨w.heap.size+1+1,3,none⟩ (.slice B (m-k) d)=W4 at *
    obtain⟨j,rfl⟩:∃ j,B=some ⟨j,0,none⟩:=by
     rcases V3.2 with⟨h,_⟩ |⟨g,cap,b6,f,_⟩
     ·exfalso;injection h with _ M _;omega
     ·injection f with M _ _;exact⟨g,M⟩
    have R:k<a.length:=by rw[S.out];exact G
    have ab:W4.cell? ⟨j,0,none⟩=some (.string (Af a[k])):=by
     have:=V3.cells (g:=j) rfl 0 (.string (Af a[k])) (by unfold strs;rw[GH,GH,IX,VI,DK R];rfl);rw[addr_add]at this;exact this
    have bp:=(V3.lt j rfl).2
    have b7:0<m-k:=by omega
    have ai:=Ac (λW=>Il a[k] (HW _ (EI R)).1 (HW _ (EI R)).2 W)
    have ar:a.getD k ⟨[],[]⟩=a[k]:=by rw[LH,DK R];rfl
    have au:=Ac (show AQ (a.getD k ⟨[],[]⟩).k=AQ a[k].k by rw[ar]);obtain⟨vk,av⟩:∃ v,Af a[k]=v:=⟨_,rfl⟩;obtain⟨kk,aw⟩:∃ v,AQ a[k].k=v:=⟨_,rfl⟩;rw[av]at ab ai;rw[aw]at ai au;have bm:=Ac V2;have ac:=Ac V3;have bn:=Ac V4;have bo:=Ac UB;have ax:=Ac U1;have ay:=Ac U2;clear R av aw ar V2 V3 V4 UB S0 S1 S2 SB aq L O3 Q0 Z Q2 QB P0 P1 X Y o r s t bi bj bk bl f2 D E;obtain⟨a0,a1,a2,a3⟩:=U1.cells4;obtain⟨b0,b1,b2,b3⟩:=U2.cells4;have f1:=U1.frozen;have f2:=U2.frozen;have z1:=U1.lt;have z2:=U2.lt;clear U1 U2;have aj:=Ac (ac.lt j rfl).1;have b8:=Ac ab
    have K1:=Ac (vX (ax.FU (x:=.int .i64 n) (y:=.int .i64 1) (z:=.int .i64 l) (u:=.slice A2 k c2)).drew (ay.FT (g':=w.heap.size+1) (x:=.int .i64 n) (y:=.int .i64 1) (z:=.int .i64 l) (u:=.slice A2 k c2) (by omega)).drew (Ul (Ld (g':=w.heap.size+1) (x:=.int .i64 n) (y:=.int .i64 1) (z:=.int .i64 l) (u:=.slice A2 k c2) ab (by have:=aj.out;omega))))
    have K2:=Ac (vX ((ax.FU (x:=.int .i64 n) (y:=.int .i64 1) (z:=.int .i64 l) (u:=.slice A2 k c2)).FT (g':=w.heap.size+1+1) (x:=.int .i64 n) (y:=.int .i64 1) (z:=.int .i64 l) (u:=.slice (some ⟨j,0,none⟩) (m-k) d) (by omega)).drew ((ay.FT (g':=w.heap.size+1) (x:=.int .i64 n) (y:=.int .i64 1) (z:=.int .i64 l) (u:=.slice A2 k c2) (by omega)).FU (x:=.int .i64 n) (y:=.int .i64 1) (z:=.int .i64 l) (u:=.slice (some ⟨j,0,none⟩) (m-k) d)).drew (Ul (Ld (g':=w.heap.size+1+1) (x:=.int .i64 n) (y:=.int .i64 1) (z:=.int .i64 l) (u:=.slice (some ⟨j,0,none⟩) (m-k) d) (Ld (g':=w.heap.size+1) (x:=.int .i64 n) (y:=.int .i64 1) (z:=.int .i64 l) (u:=.slice A2 k c2) ab (by have:=aj.out;omega)) (by have:=aj.out;omega))))
    go_region_held3 (λw'=>w'.cell? ⟨w.heap.size+1,0,none⟩=some (.int .i64 n)/\w'.cell? ⟨w.heap.size+1,1,none⟩=some (.int .i64 1)/\w'.cell? ⟨w.heap.size+1,2,none⟩=some (.int .i64 l)/\w'.cell? ⟨w.heap.size+1,3,none⟩=some (.slice A2 k c2) /\
     w'.cell? ⟨w.heap.size+1+1,0,none⟩=some (.int .i64 n)/\w'.cell? ⟨w.heap.size+1+1,1,none⟩=some (.int .i64 1)/\w'.cell? ⟨w.heap.size+1+1,2,none⟩=some (.int .i64 l)/\w'.cell? ⟨w.heap.size+1+1,3,none⟩=some (.slice (some ⟨j,0,none⟩) (m-k) d)/\w'.cell? ⟨j,0,none⟩=some (.string vk)) (first |(with_reducible exact K1.out) |(with_reducible exact K2.out) | go_keep)
     ((go_at_call 51;refine(ai _).mono ?_;rintro e w1 ⟨rfl,rfl⟩))
    go_wp2_with fail
    obtain⟨q0,q1,q2,q3,q4,q5,q6,q7,q8⟩:=K2;rw[au.out];refine IQ (v:=.tuple #[.agg #[.int .i64 n,.int .i64 1,.int .i64 l,.slice A2 k c2],.string kk,.agg #[.int .i64 n,.int .i64 1,.int .i64 l,.slice (some ⟨j,0,none⟩) (m-k) d]]) (by simp[results,Tryz.results143,go_sem, *]) rfl ?_;exact⟨_,_,rfl,XD (Py (Py bm (λe=>by have:=BA _ e;omega)) (λe=>by have:=BA _ e;omega)),XD (own_base (Py (Py ac (λe=>by have:=(ac.lt _ e).1;omega)) (λe=>by have:=(ac.lt _ e).1;omega)) (by omega)),bn,(Si (Si bo (by omega)) (by omega)).drew⟩
def xG{w:World}{g j n o i p:Nat}{r s:TypeId}{a b c d e f h k v q:Value}(l:Has w g r #[a,b,c,d])(m:Has w j s #[e,f,h,k])(t:w.cell? ⟨n,i,none⟩=some v)(u:w.cell? ⟨o,p,none⟩=some q):w.cell? ⟨g,0,none⟩=some a/\w.cell? ⟨g,1,none⟩=some b/\w.cell? ⟨g,2,none⟩=some c/\w.cell? ⟨g,3,none⟩=some d/\w.cell? ⟨j,0,none⟩=some e/\w.cell? ⟨j,1,none⟩=some f/\w.cell? ⟨j,2,none⟩=some h/\w.cell? ⟨j,3,none⟩=some k/\w.cell? ⟨n,i,none⟩=some v/\w.cell? ⟨o,p,none⟩=some q :=
 ⟨l.cell 0,l.cell 1,l.cell 2,l.cell 3,m.cell 0,m.cell 1,m.cell 2,m.cell 3,t,u⟩
def uC(n:Nat):n≠n+1+1:=by omega
def EG0 {w:World} {n l m c:Nat} {A:Option Addr} {a:List It} (tv:Value) (h:SS w A m (a.map Af)) (hw:IU a) (hm:m<=1000) (br:m<=c) (hc:c<=9223372036854775807) (h0:0<cutAt (Ak a / 2) a) (O:cutAt (Ak a / 2) a<m) (hu:Ak a<=100000) (h4:∀ i∈a,i.r.length=4) :
 Calls Tryz.prog 143 #[tv,.agg #[.int .i64 n,.int .i64 2,.int .i64 l,.slice A m c]] w λe w'=>∃ va vb,e = .returned (.tuple #[.agg #[.int .i64 n,.int .i64 2,.int .i64 l,va],.string (AQ (a.getD (cutAt (Ak a / 2) a-1) ⟨[],[]⟩).k),.agg #[.int .i64 n,.int .i64 2,.int .i64 (Gi (a.getD (cutAt (Ak a / 2) a-1) ⟨[],[]⟩).r),vb]]) /\
  w'.ownsRow w.heap.size 9 1 va (cutAt (Ak a / 2) a-1) (strs ((a.take (cutAt (Ak a / 2) a-1)).map Af))/\w'.ownsRow w.heap.size 9 1 vb (m-cutAt (Ak a / 2) a) (strs ((a.drop (cutAt (Ak a / 2) a)).map Af))/\(∀ g,va.ownBlock=some g->vb.ownBlock≠some g)/\Below w.heap.size w w':=by
 obtain⟨hl,aa⟩:=ZB h;obtain⟨b,off,rfl,hb,ap⟩:=aa (by omega);have CI:=Ac (λi (hi:i<=a.length)=>kF a (Ak a / 2) i (by omega) hi);have HS:=Ac h;have HC:=Ac ap;have Y:=Ac hl;have US:=Ac (λW (h:SS W (some ⟨b,off,none⟩) m (a.map Af))=>Jm (some ⟨b,off,none⟩) m c (a.map Af) W h (by omega) (by rw[Ib];omega));rw[Ib]at US;obtain⟨P,aq⟩:∃ P,cutAt (Ak a / 2) a=P:=⟨_,rfl⟩;rw[aq]at CI h0 O ⊢;obtain⟨us,ar⟩:∃ us,Ak a=us:=⟨_,rfl⟩;rw[ar]at US CI hu;have Z:=Ac hw;have H4:=Ac h4;clear h aa ap hl aq ar hw h4;go_enter Tryz.func143,Tryz.ntmps143
 go_wp2_with fail
 have K:=Has.new w 116 #[.int .i64 n,.int .i64 2,.int .i64 l,.slice (some ⟨b,off,none⟩) m c];have B0:=Ag w (.cells #[.int .i64 n,.int .i64 2,.int .i64 l,.slice (some ⟨b,off,none⟩) m c] 116)
 have z0:(w.alloc (.cells #[.int .i64 n,.int .i64 2,.int .i64 l,.slice (some ⟨b,off,none⟩) m c] 116)).heap.size=w.heap.size+1:=by simp
 generalize w.alloc (.cells #[.int .i64 n,.int .i64 2,.int .i64 l,.slice (some ⟨b,off,none⟩) m c] 116)=W0 at *;have R1:=Has.new W0 116 #[.int .i64 0,.int .i64 0,.int .i64 0,.slice none 0 0];have Q:=Ag W0 (.cells #[.int .i64 0,.int .i64 0,.int .i64 0,.slice none 0 0] 116)
 have z1:(W0.alloc (.cells #[.int .i64 0,.int .i64 0,.int .i64 0,.slice none 0 0] 116)).heap.size=w.heap.size+1+1:=by simp[z0]
 replace K:=K.Ai Q;replace Q:=Ap B0 Q B0.size;rw[z0]at R1;generalize W0.alloc (.cells #[.int .i64 0,.int .i64 0,.int .i64 0,.slice none 0 0] 116)=W1 at *;have R2:=Has.new W1 116 #[.int .i64 0,.int .i64 0,.int .i64 0,.slice none 0 0];have H:=Ag W1 (.cells #[.int .i64 0,.int .i64 0,.int .i64 0,.slice none 0 0] 116)
 have z2:(W1.alloc (.cells #[.int .i64 0,.int .i64 0,.int .i64 0,.slice none 0 0] 116)).heap.size=w.heap.size+1+1+1:=by simp[z1]
 replace K:=K.Ai H;replace R1:=R1.Ai H;replace H:=Ap Q H Q.size;rw[z1]at R2;generalize W1.alloc (.cells #[.int .i64 0,.int .i64 0,.int .i64 0,.slice none 0 0] 116)=W at *;clear B0 Q z0 z1 W1 W0;refine(US W (HS.keep H)).mono ?_;rintro en w' ⟨rfl,rfl⟩;obtain⟨o,s,t,B⟩:=K.cells4;have BW:=Ac H;have CW:=Ac (λi (hi:i<a.length)=>((Yj H).1 b (off+i) hb).trans (HC i hi));have ac:=Ac K;have R:=Ac R1;have S:=Ac R2;clear H K R1 R2 HC z2
 go_wp2_with fail
 go_loop [8,9] (λi u=>∃ k q:Nat,k<=P/\i = .int .i64 k/\u = .int .i64 q/\Hid (q=Ak (a.take k))) (λi _=>P-(intOf i).toNat)
 case atStart=>exact⟨0,0,BR _,rfl,rfl,Ac rfl⟩
 case round =>
  obtain⟨k,q,hk,rfl,rfl,hq⟩:=hrel;have T:=CI k (by rw[Y.out];omega);rw[<- hq.out]at T;by_cases ad:k<P
  ·have ae:k<a.length:=by rw [Y.out];omega
   have aa:=CW k ae;have a9:=T.2 ad
   have au:Hid (Ak (a.take (k+1))=q+(4+(Af a[k]).size)):=Ac (by
    rw[JS ae,Ff,<- hq.out,Dn,Hf,<- iO];omega)
   have ba:(Af a[k]).size<=5400:=by
    have:=Z a[k] (EI _);rw[Nr];omega
   have bs:k<m:=by omega
   obtain⟨v,D⟩:∃ v,Af a[k]=v:=⟨_,rfl⟩;rw[D]at aa au ba;clear D ae T
   go_wp2_with fail
   go_round
   case rel=>exact⟨k+1,q+(4+v.size),by omega,by go_num,by go_num,Ac au.symm⟩
   case measure=>simp[intOf];omega
  ·obtain rfl:k=P:=by omega
   have a9:¬(q:Int)<(us:Int) / 2:=by
    have:=mt T.1 ad;omega
   clear T ad
   go_upto_region 6 with fail
   go_cut [30,31] (λ_ _ wx=>Has wx (w.heap.size+1) 116 #[.int .i64 n,.int .i64 2,.int .i64 l,.slice (some ⟨b,off,none⟩) m c]/\Has wx (w.heap.size+1+1) 116 #[.int .i64 n,.int .i64 2,.int .i64 l,.slice (some ⟨b,off,none⟩) m c]/\Has wx w.heap.size 116 #[.int .i64 n,.int .i64 2,.int .i64 l,.slice (some ⟨b,off,none⟩) m c]/\Below w.heap.size w wx)
   case first =>
    obtain⟨bt,bu,bv,bw⟩:=R.cells4;obtain⟨bx,bz,b4,b5⟩:=S.cells4;have f1:=R.frozen;have f2:=S.frozen;have E:=R.lt;have F:=S.lt;clear o s t B;obtain⟨o,s,t,B⟩:=ac.cells4
    go_region
    go_wp2_with fail
    go_meet;exact⟨(R.FU.FT (by omega)).drew,((S.FT (by omega)).FU).drew,((ac.FT (by omega)).FT (by omega)).drew,(Si (Si BW (by omega)) (by omega)).drew⟩
   case rest =>
    obtain⟨T1,T2,T0,TB⟩:=hcut
    obtain⟨j,rfl⟩:∃ j,k=j+1:=⟨k-1,by omega⟩
    have G:j<a.length:=by rw[Y.out];omega
    have LF:=Ac (λW=>Qr n l (.slice (some ⟨b,off,none⟩) m c) W);have bb:=Ac (λW (h:SS W (some ⟨b,off,none⟩) j ((a.take j).map Af))=>Kv (A:=some ⟨b,off,none⟩) (c:=c) h (by omega));have bc:=Ac (λW (h:SS W (some ⟨b,off+(j+1),none⟩) (m-(j+1)) ((a.drop (j+1)).map Af))=>Kv (A:=some ⟨b,off+(j+1),none⟩) (c:=c-(j+1)) h (by omega))
    have bd:=Ac (λW (hb2:Below w.heap.size w W)=>(show SS W (some ⟨b,off,none⟩) j ((a.take j).map Af)from by
     have hs:=HS.keep hb2;refine⟨by simp[Y.out];omega,λhn=>?_⟩;obtain⟨b',ab,L,e2,e3⟩:=hs.2 (by omega);refine⟨b',ab,L,e2,λi v D=>e3 i v ?_⟩;rw[QX]at D
     have be:i<j:=by have:=(C9.1 D).1;simp at this;omega
     rw[GZ,AC be]at D;exact D))
    have bf:=Ac (λW (hb2:Below w.heap.size w W)=>(show SS W (some ⟨b,off+(j+1),none⟩) (m-(j+1)) ((a.drop (j+1)).map Af)from by
     have hs:=HS.keep hb2;refine⟨by simp[Y.out],λhn=>?_⟩;obtain⟨b',ab,L,e2,e3⟩:=hs.2 (by omega)
     cases L
     refine⟨b,off+(j+1),rfl,e2,λi v D=>?_⟩;rw[MW,IX]at D;rw[TA]
     exact e3 (j+1+i) v D))
    have CJ:=Ac (λW (hb2:Below w.heap.size w W)=>(show W.cell? ⟨b,off+j,none⟩=some (.string (Af a[j]))from by
     obtain⟨b',ab,L,e2,e3⟩:=(HS.keep hb2).2 (by omega)
     cases L
     exact e3 j _ (by simp[G])))
    have av:a.getD j ⟨[],[]⟩=a[j]:=by rw[LH,DK G];rfl
    have af:=Ac (show AQ (a.getD j ⟨[],[]⟩).k=AQ a[j].k/\Gi (a.getD j ⟨[],[]⟩).r=Gi a[j].r by rw[av];exact⟨rfl,rfl⟩);have KY:=Ac (λW=>Il a[j] (Z _ (EI G)).1 (Z _ (EI G)).2 W);have RS:=Ac (λW=>Ui a[j] (Z _ (EI G)).1 (Z _ (EI G)).2 W);have NU:=Ac (λW=>Uu a[j].r (H4 _ (EI G)) W);obtain⟨vk,aw⟩:∃ v,Af a[j]=v:=⟨_,rfl⟩;obtain⟨kk,ag⟩:∃ v,AQ a[j].k=v:=⟨_,rfl⟩;obtain⟨rr,ax⟩:∃ v,AQ a[j].r=v:=⟨_,rfl⟩;obtain⟨C,ah⟩:∃ v,Gi a[j].r=v:=⟨_,rfl⟩;rw[aw]at CJ KY RS;rw[ag]at KY;rw[ax]at RS NU;rw[ah]at NU;rw[ag,ah]at af;have bg:=Ac T1;have bh:=Ac T2;have bi:=Ac T0;have ay:=Ac TB;have E:=T1.lt;have F:=T2.lt;clear o s t B ac R S BW CW av aw ag ax ah G;obtain⟨o,s,t,B⟩:=T0.cells4;clear T0 T1 T2 TB
    have i1:j<=c:=by omega
    have i2:j+1<c:=by omega
    have i3:(j:Int)<(m:Int):=by omega
    have i4:j<m:=by omega
    have i5:j+1<=m:=by omega
    go_wp2_with (first
     |(go_at_call 130;refine(LF _).mono ?_;rintro en w1 ⟨rfl,U⟩;have P1:=Ac (bg.Ai U);have P2:=Ac (bh.Ai U);have P0:=Ac (bi.Ai U);have PB:=Ac (Ap ay U ay.size);clear o s t B U E F;obtain⟨o,s,t,B⟩:=P0.cells4;have E:=P1.lt;have F:=P2.lt)
     |(go_at_call 198;(with_reducible refine(bb.out _ (bd.out _ PB.out)).mono ?_);rintro en w2 ⟨va,rfl,ai,hb2⟩;obtain⟨A2,c2,rfl,_⟩:=Bg ai;have O2:=Ac ai;have Q1:=Ac (P1.Ai hb2);have Q2:=Ac (P2.Ai hb2);have Q0:=Ac (P0.Ai hb2);have QB:=Ac (Ap PB hb2 PB.size);have az:=Ac hb2;have cj:=CJ _ (QB.setCell (p:=⟨w.heap.size+1,3,none⟩) (EZ _) (.slice A2 j c2));clear o s t B hb2 ai E F;obtain⟨o,s,t,B⟩:=Q0.cells4;obtain⟨bj,bk,bl,bm⟩:=Q1.cells4;have E:=Q1.lt;have F:=Q2.lt;have f1:=Q1.frozen)
     |(go_at_call 136;refine(RS _).mono ?_;rintro e w1 ⟨rfl,rfl⟩)
     |(go_at_call 137;refine(NU _).mono ?_;rintro en w4 ⟨rfl,M⟩;have N1:=Ac ((Q1.set 3 (.slice A2 j c2)).Ai M);have N2:=Ac ((Q2.far (p:=⟨w.heap.size+1,3,none⟩) (by simp) (.slice A2 j c2)).Ai M);have N0:=Ac ((Q0.far (p:=⟨w.heap.size+1,3,none⟩) (by simp) (.slice A2 j c2)).Ai M);have NB:=Ac (Ap (QB.setCell (p:=⟨w.heap.size+1,3,none⟩) (EZ _) (.slice A2 j c2)) M (by simpa using QB.size));have V:=Ac M;clear cj o s t B bj bk bl bm M E F f1;obtain⟨o,s,t,B⟩:=N0.cells4;obtain⟨aj,ak,al,am⟩:=N2.cells4;have E:=N1.lt;have F:=N2.lt;have f2:=N2.frozen)
     |(go_at_call 198;(with_reducible refine(bc.out _ (bf.out _ (NB.out.setCell (p:=⟨w.heap.size+1+1,2,none⟩) (VH (EZ _)) (.int .i64 C)))).mono ?_);rintro en I ⟨vb,rfl,an,N⟩;obtain⟨d,f,rfl,_⟩:=Bg an;have O3:=Ac an;have S1:=Ac ((N1.far (p:=⟨w.heap.size+1+1,2,none⟩) (by simp) (.int .i64 C)).Ai N);have S2:=Ac ((N2.set 2 (.int .i64 C)).Ai N);have S0:=Ac ((N0.far (p:=⟨w.heap.size+1+1,2,none⟩) (uC _) (.int .i64 C)).Ai N);have SB:=Ac (Ap (NB.setCell (p:=⟨w.heap.size+1+1,2,none⟩) (VH (EZ _)) (.int .i64 C)) N (by simpa using NB.size));have a4:=Ac N;clear o s t B aj ak al am f2 N an E F;obtain⟨o,s,t,B⟩:=S0.cells4;obtain⟨aj,ak,al,am⟩:=S2.cells4;have E:=S1.lt;have F:=S2.lt;have f2:=S2.frozen))
    have U1:Has (I.setCell ⟨w.heap.size+1+1,3,none⟩ (.slice d (m-(j+1)) f)) (w.heap.size+1) 116 #[.int .i64 n,.int .i64 2,.int .i64 l,.slice A2 j c2]:=S1.far (p:=⟨w.heap.size+1+1,3,none⟩) (by simp) (.slice d (m-(j+1)) f);have U2:Has (I.setCell ⟨w.heap.size+1+1,3,none⟩ (.slice d (m-(j+1)) f)) (w.heap.size+1+1) 116 #[.int .i64 n,.int .i64 2,.int .i64 C,.slice d (m-(j+1)) f]:=S2.set 3 (.slice d (m-(j+1)) f);have U0:Has (I.setCell ⟨w.heap.size+1+1,3,none⟩ (.slice d (m-(j+1)) f)) w.heap.size 116 #[.int .i64 n,.int .i64 2,.int .i64 l,.slice (some ⟨b,off,none⟩) m c]:=S0.far (p:=⟨w.heap.size+1+1,3,none⟩) (uC _) (.slice d (m-(j+1)) f)
    have UB:=SB.setCell (p:=⟨w.heap.size+1+1,3,none⟩) (by show w.heap.size<=w.heap.size+1+1;omega) (.slice d (m-(j+1)) f);have a5:=CJ _ UB;have bn:w.heap.size+1+1<w1.heap.size:=P2.lt
    have BA:=Ac (λg (J:(Value.slice A2 j c2).ownBlock=some g)=>(show w.heap.size+1+1<g from by
     have O:=(O2.lt g J).1
     omega))
    have V2:(I.setCell ⟨w.heap.size+1+1,3,none⟩ (.slice d (m-(j+1)) f)).ownsRow w.heap.size 9 1 (.slice A2 j c2) j (strs ((a.take j).map Af)):=own_base (b:=w.heap.size) (Bo O2 (λg J=>by
     have O:=BA g J;have h2:=(O2.lt g J).2;have q1:=CX I ⟨w.heap.size+1+1,3,none⟩ (.slice d (m-(j+1)) f) g (by show g≠w.heap.size+1+1;omega);have X:=V.size;have q2:=a4.block g (by simp at X;simp;omega);have q3:=CX w4 ⟨w.heap.size+1+1,2,none⟩ (.int .i64 C) g (by show g≠w.heap.size+1+1;omega);have q4:=V.block g (by simp;omega);have q5:=CX w2 ⟨w.heap.size+1,3,none⟩ (.slice A2 j c2) g (by show g≠w.heap.size+1;omega)
     exact q1.trans (q2.trans (q3.trans (q4.trans q5))))) (by have:=PB.size;omega)
    have V3:(I.setCell ⟨w.heap.size+1+1,3,none⟩ (.slice d (m-(j+1)) f)).ownsRow (w.heap.size+1+1+1) 9 1 (.slice d (m-(j+1)) f) (m-(j+1)) (strs ((a.drop (j+1)).map Af)):=by
     have X:=V.size;have b6:=az.size;simp at X;refine own_base (b:=w.heap.size+1+1+1) (Bo O3 (λg J=>?_)) (by simp;omega);have O:=(O3.lt g J).1;exact CX I ⟨w.heap.size+1+1,3,none⟩ (.slice d (m-(j+1)) f) g (by show g≠w.heap.size+1+1;simp at O;omega)
    have V4:∀ g,(Value.slice A2 j c2).ownBlock=some g->(Value.slice d (m-(j+1)) f).ownBlock≠some g:=λg J e=>by
     have X:=V.size;simp at X;have O:=(O2.lt g J).2;have h2:=(O3.lt g e).1;simp at h2;omega
    generalize I.setCell ⟨w.heap.size+1+1,3,none⟩ (.slice d (m-(j+1)) f)=W4 at *;have bo:=Ac V2;have ao:=Ac V3;have bp:=Ac V4;have bq:=Ac UB;have a6:=Ac U1;have a7:=Ac U2;have a8:W4.cell? ⟨w.heap.size,3,none⟩=some (.slice (some ⟨b,off,none⟩) m c):=U0.cell 3;clear V2 V3 V4 UB S0 S1 S2 SB a4 V az O2 O3 Q0 Q1 Q2 QB N0 N1 N2 NB P0 P1 P2 PB o s t B aj ak al am f2 E F bn;obtain⟨a0,a1,a2,a3⟩:=U1.cells4;obtain⟨b0,b1,b2,b3⟩:=U2.cells4;have f1:=U1.frozen;have f2:=U2.frozen;have z1:=U1.lt;have z2:=U2.lt;clear U1 U2 U0
    have K1:=Ac (xG (a6.FU (x:=.int .i64 n) (y:=.int .i64 2) (z:=.int .i64 l) (u:=.slice A2 j c2)).drew (a7.FT (g':=w.heap.size+1) (x:=.int .i64 n) (y:=.int .i64 2) (z:=.int .i64 l) (u:=.slice A2 j c2) (by omega)).drew (Ul (Ld (g':=w.heap.size+1) (x:=.int .i64 n) (y:=.int .i64 2) (z:=.int .i64 l) (u:=.slice A2 j c2) a8 (by omega))) (Ul (Ld (g':=w.heap.size+1) (x:=.int .i64 n) (y:=.int .i64 2) (z:=.int .i64 l) (u:=.slice A2 j c2) a5 (by omega))))
    have K2:=Ac (xG ((a6.FU (x:=.int .i64 n) (y:=.int .i64 2) (z:=.int .i64 l) (u:=.slice A2 j c2)).FT (g':=w.heap.size+1+1) (x:=.int .i64 n) (y:=.int .i64 2) (z:=.int .i64 C) (u:=.slice d (m-(j+1)) f) (by omega)).drew ((a7.FT (g':=w.heap.size+1) (x:=.int .i64 n) (y:=.int .i64 2) (z:=.int .i64 l) (u:=.slice A2 j c2) (by omega)).FU (x:=.int .i64 n) (y:=.int .i64 2) (z:=.int .i64 C) (u:=.slice d (m-(j+1)) f)).drew (Ul (Ld (g':=w.heap.size+1+1) (x:=.int .i64 n) (y:=.int .i64 2) (z:=.int .i64 C) (u:=.slice d (m-(j+1)) f) (Ld (g':=w.heap.size+1) (x:=.int .i64 n) (y:=.int .i64 2) (z:=.int .i64 l) (u:=.slice A2 j c2) a8 (by omega)) (by omega))) (Ul (Ld (g':=w.heap.size+1+1) (x:=.int .i64 n) (y:=.int .i64 2) (z:=.int .i64 C) (u:=.slice d (m-(j+1)) f) (Ld (g':=w.heap.size+1) (x:=.int .i64 n) (y:=.int .i64 2) (z:=.int .i64 l) (u:=.slice A2 j c2) a5 (by omega)) (by omega))))
    go_region_held3 (λw'=>w'.cell? ⟨w.heap.size+1,0,none⟩=some (.int .i64 n)/\w'.cell? ⟨w.heap.size+1,1,none⟩=some (.int .i64 2)/\w'.cell? ⟨w.heap.size+1,2,none⟩=some (.int .i64 l)/\w'.cell? ⟨w.heap.size+1,3,none⟩=some (.slice A2 j c2) /\
     w'.cell? ⟨w.heap.size+1+1,0,none⟩=some (.int .i64 n)/\w'.cell? ⟨w.heap.size+1+1,1,none⟩=some (.int .i64 2)/\w'.cell? ⟨w.heap.size+1+1,2,none⟩=some (.int .i64 C)/\w'.cell? ⟨w.heap.size+1+1,3,none⟩=some (.slice d (m-(j+1)) f)/\w'.cell? ⟨w.heap.size,3,none⟩=some (.slice (some ⟨b,off,none⟩) m c)/\w'.cell? ⟨b,off+j,none⟩=some (.string vk)) (first |(with_reducible exact K1.out) |(with_reducible exact K2.out) | go_keep)
     ((go_at_call 51;refine(KY _).mono ?_;rintro e w1 ⟨rfl,rfl⟩))
    go_wp2_with fail
    obtain⟨q0,q1,q2,q3,q4,q5,q6,q7,q8⟩:=K2
    have L:j+1-1=j:=by omega
    rw[L,af.1,af.2];refine IQ (v:=.tuple #[.agg #[.int .i64 n,.int .i64 2,.int .i64 l,.slice A2 j c2],.string kk,.agg #[.int .i64 n,.int .i64 2,.int .i64 C,.slice d (m-(j+1)) f]]) (by simp[results,Tryz.results143,go_sem, *]) rfl ?_;exact⟨_,_,rfl,XD (Py (Py bo (λe=>by have:=BA _ e;omega)) (λe=>by have:=BA _ e;omega)),XD (own_base (Py (Py ao (λe=>by have:=(ao.lt _ e).1;omega)) (λe=>by have:=(ao.lt _ e).1;omega)) (by omega)),bp,(Si (Si bq (by omega)) (by omega)).drew⟩
def kT {w:World} {X:List (Option Nat)} {f p root c k:Nat} {S g:St} (h:PT w X p S g c k) (a:TM w X f p root) (i:c+1<=60000) (j:k<=900000000) (l:S.q<=60000) :
 Calls Tryz.prog 144 #[.pointer (some ⟨f,0,none⟩)] w (Gw X w p S.alloc g (c+2) (k+4) (.int .i64 S.Aj)):=by
 have o:=Ac (Z9 h i j l);have s:=a.has.cells2.1;have t:=a.has.lt;clear h a i j l;go_enter Tryz.func144,Tryz.ntmps144
 go_wp2_with (first
  |(go_at_call 45;refine o.mono ?_;rintro u w1 ⟨rfl,r,b,d⟩;have m:=Ac b;have n:=Ac d;clear b d)
  |(go_at_call 129;refine(Gp _).mono ?_;rintro e w1 ⟨rfl,rfl⟩))
 go_ret;exact⟨rfl,r,m,n⟩
def ZM{w:World}{X:List (Option Nat)}{p c k:Nat}{S a:St}(h:PT w X p S a c k):PT w.drew X p S a c k:=h.below ((AU _ _).drew)
def Yl {w:World} {X:List (Option Nat)} {x p root c k n l m cp kd:Nat} {S y:St} {A:Option Addr} {cs:List It} (h:PT w X p S y c k) (o:TM w X x p root) (F:c<=60000) (G:k<=900000000) (H:0<n) (I:n<S.q) (J:n∉S.fr) (R:kd=1\/(kd=2/\0<m)) (K:l<=2147483647) (r:SS w A m (cs.map Af)) (T:m<=1000) (L:Ak cs<=1012) :
 Calls Tryz.prog 142 #[.pointer (some ⟨x,0,none⟩),.agg #[.int .i64 n,.int .i64 kd,.int .i64 l,.slice A m cp]] w (Gw X w p (S.set n (kd,l,cs.map Af)) y (c+1) (k+1) (.tuple #[])):=by
 have D:Xu (kd,l,cs.map Af):=⟨by show 1<=kd;omega,by show kd<=5;omega,K,by show Ce (cs.map Af)<=1012;rw[Ib];exact L⟩
 have M:=Ac h;have N:=Ac o;have O:=Ac (λW (h:PT W X p S y c k) (o:TM W X x p root) (r:SS W A m (cs.map Af))=>Hy (cp:=cp) (pg:=(kd,l,cs.map Af)) h o F G H I J D r (by omega));have s:=Ac (λW (h:SS W A m (cs.map Af))=>Jm A m cp (cs.map Af) W h (by omega) (by rw[Ib];omega));rw[Ib]at s;have a:=Ac (Ag w (.cells #[.int .i64 n,.int .i64 kd,.int .i64 l,.slice A m cp] 116));have j:=Ac r;have P:=Ac (Has.new w 116 #[.int .i64 n,.int .i64 kd,.int .i64 l,.slice A m cp]);have Q:=Ac (λW=>jR n kd l (.slice A m cp) W);obtain⟨z,E⟩:∃ z,Ak cs=z:=⟨_,rfl⟩;rw[E]at s L
 have u1:¬(1012:Int)<(z:Int):=by omega
 clear h o F G H I J K r D E T
 rcases R with rfl |⟨rfl,aa⟩
 ·have t:=Ac (λW=>Pz n l (.slice A m cp) W);clear Q;go_enter Tryz.func142,mM
  go_wp2_with (first
   |(go_at_call 141;refine(s _ (j.keep a)).mono ?_;rintro e w1 ⟨rfl,rfl⟩)
   |(go_at_call 130;refine(t _).mono ?_;rintro B w1 ⟨rfl,d⟩;have b:=Ac d;have i:=Ac (P.Ai d);obtain⟨U,V,Y,Z⟩:=i.cells4;have xz:=i.lt;clear d)
   |(go_at_call 46;refine(O _ ((M.below a).below b) ((N.below a).below b) ((j.keep a).keep (b.mono (by simp)))).mono ?_;rintro B w2 ⟨rfl,C,f,g⟩;have u:=Ac f;have v:=Ac g;clear f g))
  go_end0
  exact⟨rfl,C,u,((Turn.below X a).next b).trans v⟩
 ·have t:=Ac (λW=>Qr n l (.slice A m cp) W)
  have e0:((m:Int) == 0)=false:=by rw[FK];omega
  clear Q;go_enter Tryz.func142,mM
  go_wp2_with (first
   |(go_at_call 141;refine(s _ (j.keep a)).mono ?_;rintro e w1 ⟨rfl,rfl⟩)
   |(go_at_call 130;refine(t _).mono ?_;rintro B w1 ⟨rfl,d⟩;have b:=Ac d;have i:=Ac (P.Ai d);obtain⟨U,V,Y,Z⟩:=i.cells4;have xz:=i.lt;clear d)
   |(go_at_call 46;refine(O _ ((M.below a).below b) ((N.below a).below b) ((j.keep a).keep (b.mono (by simp)))).mono ?_;rintro B w2 ⟨rfl,C,f,g⟩;have u:=Ac f;have v:=Ac g;clear f g))
  go_end0
  exact⟨rfl,C,u,((Turn.below X a).next b).trans v⟩
def KB0 {w:World} {X:List (Option Nat)} {f p root c k n l cp:Nat} {S o:St} {A:Option Addr} (h:PT w X p S o c k) (i:TM w X f p root) (hc:c+3<=60000) (hk:k<=800000000) (h0:0<n) (hn:n<S.q) (hf:n∉S.fr) (Q:0<l) (I:l<S.q) (R:l∉S.fr) (T:n≠l) (r:Xu (S.G l)) (U:(S.G l).1=1\/(S.G l).1=2) :
 Calls Tryz.prog 142 #[.pointer (some ⟨f,0,none⟩),.agg #[.int .i64 n,.int .i64 2,.int .i64 l,.slice A 0 cp]] w (Gw X w p ((S.free l).set n (S.G l)) o (c+3) (k+5) (.tuple #[])):=by
 have HP:=Ac h;have J:=Ac i;have LY:=Ac (λW (h:PT W X p S o c k) (i:TM W X f p root)=>Jg (n:=l) h i (by omega) (by omega) I r U);have FR:=Ac (λW X (h:PT W X p S o c (k+1))=>WB (x:=l) h (by omega) (by omega) Q I R)
 have SV:=Ac (λW X A cp (h:PT W X p (S.free l) o (c+2) (k+4)) (i:TM W X f p root) (hs:SS W A (S.G l).2.2.length (S.G l).2.2)=>Hy (n:=n) (cp:=cp) (pg:=S.G l) h i (by omega) (by omega) h0 hn (by
  show n∉l :: S.fr;rw[BI];rintro(e | e)
  ·exact T e
  ·exact hf e) r hs (by have:=Yq r;omega))
 have US:=Ac (λW=>Jm A 0 cp [] W ⟨rfl,λh=>absurd h (by omega)⟩ (by omega) (by decide));have LF:=Ac (λW=>Qr n l (.slice A 0 cp) W);obtain⟨pg,P⟩:∃ pg,S.G l=pg:=⟨_,rfl⟩;rw[P]at LY SV ⊢
 have V:((Ce ([]:List ByteArray):Nat):Int)=0:=by decide
 have u:=Ac (Ag w (.cells #[.int .i64 n,.int .i64 2,.int .i64 l,.slice A 0 cp] 116));have R0:=Ac (Has.new w 116 #[.int .i64 n,.int .i64 2,.int .i64 l,.slice A 0 cp]);have af:=Ac h.lt;rw[V]at US;clear h i hc hk h0 hn hf Q I R T r U P V;have NR:Hid (some w.heap.size∉X):=Ac (λK=>by have:=af _ K;omega);go_enter Tryz.func142,mM
 go_wp2_with (first
  |(go_at_call 141;refine(US _).mono ?_;rintro e w1 ⟨rfl,rfl⟩)
  |(go_at_call 130;refine(LF _).mono ?_;rintro L w1 ⟨rfl,E⟩;have s:=Ac E;have d:=Ac (R0.Ai E);obtain⟨v,y,z,B⟩:=d.cells4;have C:=d.lt;clear E)
  |(go_at_call 62;refine(LY _ ((HP.below u).below s) ((J.below u).below s)).mono ?_;rintro L j ⟨A2,c2,X2,rfl,Y,t,Z,aa⟩;have P2:=Ac Y;have T2:=Ac t;have O2:=Ac Z;have Q2:=Ac aa;have D:=Ac (t.has d NR);have M2:=Ac (((J.below u).below s).turn t);clear Y t Z aa v y z B C;obtain⟨v,y,z,B⟩:=D.cells4;have C:=D.lt))
 have M:=Has.new j 116 #[.int .i64 l,.int .i64 pg.1,.int .i64 pg.2.1,.slice A2 pg.2.2.length c2];have m:=Ag j (.cells #[.int .i64 l,.int .i64 pg.1,.int .i64 pg.2.1,.slice A2 pg.2.2.length c2] 116);have P3:=Ac (P2.below m);have M3:=Ac (M2.below m);have R3:=Ac (D.Ai m);have O3:=Ac (own_below O2 m);have Y3:=Ac M;have TU:=Ac ((((Turn.below X u).next s).trans T2).next m);have YX:Hid (some j.heap.size∉X2):=Ac (λK=>by have:=P2.lt _ K;omega);have ab:Hid (some w.heap.size∉X2):=Ac (T2.out.out NR d.lt);have ah:w.heap.size<j.heap.size:=D.lt;have t3:=M3.has.cell 0;have y3:=M.cell 0;generalize j.alloc (.cells #[.int .i64 l,.int .i64 pg.1,.int .i64 pg.2.1,.slice A2 pg.2.2.length c2] 116)=W3 at *
 generalize ag:j.heap.size=yb at *;clear ag M m v y z B C
 go_region_held3 (λw'=>w'.cell? ⟨f,0,none⟩=some (.pointer (some ⟨p,0,none⟩))/\w'.cell? ⟨yb,0,none⟩=some (.int .i64 l)) (first | exact (⟨M4.has.cell 0,N.cell 0⟩) | go_keep)
  (first
    |(go_at_call 80;refine(FR _ _ (ZM P3)).mono ?_;rintro L w4 ⟨rfl,X4,ac,b⟩;have P4:=Ac ac;have T4:=Ac b;have M4:=Ac ((M3.below ((AU _ _).drew)).turn b);have O:=Ac (b.has R3.drew ab);have N:=Ac (b.has Y3.drew YX);have F:=Ac (b.out ab R3.drew.lt);have OX:=Ac (Bo (w':=w4) (XD O3) (λg hg=>b.block g (O3.lt g hg).2 (Q2 g hg)));clear ac b)
    |(go_at_call 129;refine(Gp _).mono ?_;rintro e w1 ⟨rfl,rfl⟩))
 obtain⟨y0,y1,y2,y3⟩:=N.cells4;obtain⟨v,y,z,B⟩:=O.cells4;have xf:=O.frozen;have C:=O.lt;have yz:=N.lt;have zw:=R0.lt
 have H:f≠w.heap.size:=by have:=J.has.lt;omega
 go_wp2_with (go_at_call 46;refine(SV _ X4 A2 c2 (((P4.set F 1 (.int .i64 pg.1)).set F 2 (.int .i64 pg.2.1)).set F 3 (.slice A2 pg.2.2.length c2)) (((M4.set H 1 (.int .i64 pg.1)).set H 2 (.int .i64 pg.2.1)).set H 3 (.slice A2 pg.2.2.length c2)) (SS.Ed (KQ (KQ (KQ OX (a:=⟨w.heap.size,1,none⟩) d.lt (.int .i64 pg.1)) (a:=⟨w.heap.size,2,none⟩) d.lt (.int .i64 pg.2.1)) (a:=⟨w.heap.size,3,none⟩) d.lt (.slice A2 pg.2.2.length c2)))).mono ?_;rintro L w6 ⟨rfl,X6,ad,ae⟩;have P6:=Ac ad;have T6:=Ac ae;clear ad ae)
 go_end0
 exact⟨rfl,X6,P6,(((((TU.next ((AU _ _).drew)).trans T4).Dz (AY _) 1 (.int .i64 pg.1)).Dz (AY _) 2 (.int .i64 pg.2.1)).Dz (AY _) 3 (.slice A2 pg.2.2.length c2)).trans T6⟩
structure GY (S:St):Prop where
 pos:0<S.q
 few:S.q<=65536
 rng:∀ x∈S.fr,0<x/\x<S.q
 nd:S.fr.Nodup
 chain:VT S.G S.fr
 root:S.G 0=(4,S.fr.headD 0,[])
 pg:∀ n,n<S.q->Xu (S.G n)
def PT.ok{w:World}{X:List (Option Nat)}{p c k:Nat}{S a:St}(h:PT w X p S a c k):GY S:=by
 obtain⟨b,f,g,j,m2,e,h,t,A,P,B,N,l,_,_,_,i,_⟩:=h;exact⟨i.pos,i.few,i.rng,i.nd,i.chain,i.root,λn d=>(i.pg n d).1⟩
section
variable {S:St}
def GY.Aj(h:GY S):0<S.Aj/\S.Aj<S.alloc.q/\S.Aj∉S.alloc.fr/\S.q<=S.alloc.q/\S.alloc.q<=S.q+1:=by
 unfold St.Aj St.alloc
 cases a:S.fr with
 | nil=>exact⟨h.pos,bW _,by simp,EZ _,AY _⟩
 | cons x r =>
   have:=h.rng x (by rw[a];exact AZ);have nd:=h.nd;rw[a]at nd;exact⟨this.1,this.2,(FP.1 nd).1,AY _,EZ _⟩
def GY.other(h:GY S){x:Nat}(c:x<S.q)(a:x∉S.fr):x≠S.Aj/\x<S.alloc.q/\x∉S.alloc.fr:=by
 unfold St.Aj St.alloc
 cases b:S.fr with
 | nil=>exact⟨by show x≠S.q;omega,by show x<S.q+1;omega,by simp⟩
 | cons y r =>
   rw[b]at a;exact⟨λe=>a (by rw[show x=y from e];exact AZ),c,λd=>a (BF _ d)⟩
def GY.SG(h:GY S){x:Nat}(c:x≠0)(a:x≠S.Aj):S.alloc.G x=S.G x:=by
 unfold St.Aj at a;unfold St.alloc
 cases b:S.fr with
 | nil =>
   rw[b]at a;exact Be a
 | cons y r =>
   rw[b]at a;exact(Be a).trans (Be c)
end
def WM(W:World)(n kd l l2:Nat)(K:ByteArray)(cl cr:List ByteArray)(e:Ending)(w':World):Prop :=
 ∃ va vb,e = .returned (.tuple #[.agg #[.int .i64 n,.int .i64 kd,.int .i64 l,va],.string K,.agg #[.int .i64 n,.int .i64 kd,.int .i64 l2,vb]]) /\
   w'.ownsRow W.heap.size 9 1 va cl.length (strs cl)/\w'.ownsRow W.heap.size 9 1 vb cr.length (strs cr)/\(∀ g,va.ownBlock=some g->vb.ownBlock≠some g)/\Below W.heap.size W w'
structure Loc (W:World) (X:List (Option Nat)) (b0 b1 b2:Nat) (c0 c1 c2:Array Value) (va vb:Value) (cl cr:List ByteArray):Prop where
 z0:Has W b0 116 c0
 z1:Has W b1 116 c1
 z2:Has W b2 116 c2
 n0:some b0∉X
 n1:some b1∉X
 n2:some b2∉X
 d1:b0<b1
 d2:b1<b2
 oa:W.ownsRow 0 9 1 va cl.length (strs cl)
 ob:W.ownsRow 0 9 1 vb cr.length (strs cr)
 xa:∀ g,va.ownBlock=some g->some g∉X/\g≠b0/\g≠b1/\g≠b2
 xb:∀ g,vb.ownBlock=some g->some g∉X/\g≠b0/\g≠b1/\g≠b2
section
variable {W W':World} {X X':List (Option Nat)} {b0 b1 b2:Nat} {c0 c1 c2:Array Value} {va vb:Value} {cl cr:List ByteArray}
def Loc.turn(h:Loc W X b0 b1 b2 c0 c1 c2 va vb cl cr)(b:Turn X X' W W'):Loc W' X' b0 b1 b2 c0 c1 c2 va vb cl cr :=
 ⟨b.has h.z0 h.n0,b.has h.z1 h.n1,b.has h.z2 h.n2,b.out h.n0 h.z0.lt,b.out h.n1 h.z1.lt,b.out h.n2 h.z2.lt,h.d1,h.d2,
   Bo h.oa λg a=>b.block g (h.oa.lt g a).2 (h.xa g a).1,Bo h.ob λg a=>b.block g (h.ob.lt g a).2 (h.xb g a).1,
   λg a=>⟨b.out (h.xa g a).1 (h.oa.lt g a).2,(h.xa g a).2⟩,λg a=>⟨b.out (h.xb g a).1 (h.ob.lt g a).2,(h.xb g a).2⟩⟩
def Loc.below(h:Loc W X b0 b1 b2 c0 c1 c2 va vb cl cr)(a:Below W.heap.size W W'):Loc W' X b0 b1 b2 c0 c1 c2 va vb cl cr:=h.turn (Turn.below X a)
def Loc.set0(h:Loc W X b0 b1 b2 c0 c1 c2 va vb cl cr)(i:Nat)(u:Value):Loc (W.setCell ⟨b0,i,none⟩ u) X b0 b1 b2 (c0.setIfInBounds i u) c1 c2 va vb cl cr :=
 ⟨h.z0.set i u,h.z1.far (p:=⟨b0,i,none⟩) (by have:=h.d1;show b1≠b0;omega) u,h.z2.far (p:=⟨b0,i,none⟩) (by have:=h.d1;have:=h.d2;show b2≠b0;omega) u,h.n0,h.n1,h.n2,h.d1,h.d2,
   Bo h.oa λg a=>CX _ _ _ _ (h.xa g a).2.1,Bo h.ob λg a=>CX _ _ _ _ (h.xb g a).2.1,h.xa,h.xb⟩
def Loc.set1(h:Loc W X b0 b1 b2 c0 c1 c2 va vb cl cr)(i:Nat)(u:Value):Loc (W.setCell ⟨b1,i,none⟩ u) X b0 b1 b2 c0 (c1.setIfInBounds i u) c2 va vb cl cr :=
 ⟨h.z0.far (p:=⟨b1,i,none⟩) (by have:=h.d1;show b0≠b1;omega) u,h.z1.set i u,h.z2.far (p:=⟨b1,i,none⟩) (by have:=h.d2;show b2≠b1;omega) u,h.n0,h.n1,h.n2,h.d1,h.d2,
   Bo h.oa λg a=>CX _ _ _ _ (h.xa g a).2.2.1,Bo h.ob λg a=>CX _ _ _ _ (h.xb g a).2.2.1,h.xa,h.xb⟩
def Loc.set2(h:Loc W X b0 b1 b2 c0 c1 c2 va vb cl cr)(i:Nat)(u:Value):Loc (W.setCell ⟨b2,i,none⟩ u) X b0 b1 b2 c0 c1 (c2.setIfInBounds i u) va vb cl cr :=
 ⟨h.z0.far (p:=⟨b2,i,none⟩) (by have:=h.d1;have:=h.d2;show b0≠b2;omega) u,h.z1.far (p:=⟨b2,i,none⟩) (by have:=h.d2;show b1≠b2;omega) u,h.z2.set i u,h.n0,h.n1,h.n2,h.d1,h.d2,
   Bo h.oa λg a=>CX _ _ _ _ (h.xa g a).2.2.2,Bo h.ob λg a=>CX _ _ _ _ (h.xb g a).2.2.2,h.xa,h.xb⟩
end
def Xf {w:World} {X:List (Option Nat)} {u p root c k n l l2 m cp:Nat} {S G:St} {A:Option Addr} {cs:List It} {key:Ky} {cl cr:List ByteArray} {kd x:Nat} {lf:Bool} (aa:(kd=1/\lf=true/\x=S.alloc.Aj)\/(kd=2/\lf=false/\x=l)) (h:PT w X p S G c k) (j:TM w X u p root) (hc:c+10<=60000) (hk:k<=800000000) (hq:S.q<=59000) (h0:0<n) (hn:n<S.q) (hf:n∉S.fr)
 (H:SS w A m (cs.map Af)) (y:m<=1000) (hu:1012<Ak cs) (ce:Ak cs<=100000) (az:key.length<=200) (a7:cl.length<=1000) (a8:cr.length<=1000)
 (a9:∀ W,Below w.heap.size w W->Calls Tryz.prog 143 #[.pointer (some ⟨u,0,none⟩),.agg #[.int .i64 n,.int .i64 kd,.int .i64 l,.slice A m cp]] W (WM W n kd l l2 (AQ key) cl cr))
 (hl:l<=2147483647) (ba:l2<=2147483647) (h1:Ce cl<=1012) (h2:Ce cr<=1012) :
 Calls Tryz.prog 142 #[.pointer (some ⟨u,0,none⟩),.agg #[.int .i64 n,.int .i64 kd,.int .i64 l,.slice A m cp]] w
  (Gw X w p ((((S.alloc.alloc).set S.Aj (kd,x,cl)).set S.alloc.Aj (kd,l2,cr)).set n (2,S.Aj,[Af ⟨key,Ba S.alloc.Aj⟩])) G (c+7) (k+11) (.tuple #[])):=by
 have an:=h.ok;have bb:=Ac aa;have ab:=Ac (show kd=1\/kd=2 from aa.imp TP TP);have cf:=Ac (show x=S.alloc.Aj\/x=l from aa.imp (λh=>h.2.2) λh=>h.2.2);have HP:=Ac h;have HT:=Ac j;have L:=Ac (AV hc (AV hk hq));have A1:=Ac (λW (h:PT W X p S G c k) (j:TM W X u p root)=>kT h j (by omega) (by omega) (by omega));have cg:=an.Aj;have A2:=Ac (λW X (h:PT W X p S.alloc G (c+2) (k+4)) (j:TM W X u p root)=>kT h j (by omega) (by omega) (by omega));have US:=Ac (λW (h:SS W A m (cs.map Af))=>Jm A m cp (cs.map Af) W h (by omega) (by rw[Ib];omega))
 rw[Ib]at US;have M:=Ac (Ag w (.cells #[.int .i64 n,.int .i64 kd,.int .i64 l,.slice A m cp] 116));have bc:=Ac H;have R0:=Ac (Has.new w 116 #[.int .i64 n,.int .i64 kd,.int .i64 l,.slice A m cp]);obtain⟨us,bd⟩:∃ us,Ak cs=us:=⟨_,rfl⟩;rw[bd]at US hu
 have u1:(1012:Int)<(us:Int):=by omega
 have SP:=Ac a9;obtain⟨K,hK⟩:∃ K,AQ key=K:=⟨_,rfl⟩;rw[hK]at SP;have ch:=Ac hK;have ci:=Ac h.lt;have NR:Hid (some w.heap.size∉X):=Ac (λy=>by have:=h.lt _ y;omega);have HN:=Ac (AV h0 (AV hn hf));have ac:=Ac (AV hl (AV ba (AV h1 h2)));have ao:=Ac an;have be:=Ac (AV a7 a8);have ap:=Ac j.has.lt;have bf:=Ac az;clear aa h j H y bd a9 ce hu hc hk hq h0 hn hf hl ba h1 h2 an cg hK a7 a8 az;go_enter Tryz.func142,mM
 go_wp2_with (first
  |(go_at_call 141;refine(US _ (bc.keep M)).mono ?_;rintro e w1 ⟨rfl,rfl⟩)
  |(go_at_call 143;refine(SP _ M).mono ?_;rintro C w1 ⟨va,vb,rfl,aq,ar,bg,bh⟩;obtain⟨d,f,rfl,_⟩:=Bg aq;obtain⟨o,s,rfl,_⟩:=Bg ar;have OA:=Ac aq;have OB:=Ac ar;have I:=Ac bh;clear aq ar bg bh))
 have LC:Loc ((w1.alloc (.cells #[.int .i64 n,.int .i64 kd,.int .i64 l,.slice d cl.length f] 116)).alloc (.cells #[.int .i64 n,.int .i64 kd,.int .i64 l2,.slice o cr.length s] 116)) X w.heap.size w1.heap.size (w1.heap.size+1) #[.int .i64 n,.int .i64 kd,.int .i64 l,.slice A m cp] #[.int .i64 n,.int .i64 kd,.int .i64 l,.slice d cl.length f] #[.int .i64 n,.int .i64 kd,.int .i64 l2,.slice o cr.length s] (.slice d cl.length f) (.slice o cr.length s) cl cr:=by
  have D:w.heap.size<w1.heap.size:=by have:=I.size;simp at this;omega
  have q2:=Has.new (w1.alloc (.cells #[.int .i64 n,.int .i64 kd,.int .i64 l,.slice d cl.length f] 116)) 116 #[.int .i64 n,.int .i64 kd,.int .i64 l2,.slice o cr.length s];rw[ED]at q2;have low:∀ i,some i∈X->i<w.heap.size:=ci.out;refine⟨((R0.Ai I).alloc _).alloc _,(Has.new _ _ _).alloc _,q2,NR,λy=>by have:=low _ y;omega,λy=>by have:=low _ y;omega,D,bW _,own_base ((OA.alloc _).alloc _) (BR _),own_base ((OB.alloc _).alloc _) (BR _),λg hg=>?_,λg hg=>?_⟩
  ·have:=OA.lt g hg;simp at this;exact⟨λy=>by have:=low _ y;omega,by omega,by omega,by omega⟩
  ·have:=OB.lt g hg;simp at this;exact⟨λy=>by have:=low _ y;omega,by omega,by omega,by omega⟩
 have BB:=((AU w1.heap.size w1).alloc (AY _) (.cells #[.int .i64 n,.int .i64 kd,.int .i64 l,.slice d cl.length f] 116)).alloc (by simp) (.cells #[.int .i64 n,.int .i64 kd,.int .i64 l2,.slice o cr.length s] 116);have P2:=Ac (((HP.below M).below I).below BB);have M2:=Ac (((HT.below M).below I).below BB);have U2:=Ac (((Turn.below X M).next I).next BB);have U:Hid (w.heap.size<=w1.heap.size):=Ac (by have:=I.size;simp at this;omega);have L2:=Ac LC;clear LC BB;generalize ((w1.alloc (.cells #[.int .i64 n,.int .i64 kd,.int .i64 l,.slice d cl.length f] 116)).alloc (.cells #[.int .i64 n,.int .i64 kd,.int .i64 l2,.slice o cr.length s] 116))=W2 at *;generalize w1.heap.size=b1 at *
 have c0:=L2.d1;clear bc US R0 OA OB I SP M HP HT;refine(A1 W2 P2 M2).mono ?_;rintro C w3 ⟨rfl,X3,bi,ad⟩;have P3:=Ac bi;have M3:=Ac (M2.turn ad);have L3:=Ac (L2.turn ad);have U3:=Ac (U2.trans ad);clear bi ad P2 M2 L2 U2 A1
 go_wp2_with fail
 refine(A2 w3 X3 P3 M3).mono ?_;rintro C w4 ⟨rfl,N,au,ae⟩;have P4:=Ac au;have M4:=Ac (M3.turn ae);have B:=Ac (L3.turn ae);have U4:=Ac (U3.trans ae);have af:=Ac P3.ok;have bj:=Ac au.ok;clear au ae P3 M3 L3 U3 A2;obtain⟨O,a1,a2,a3⟩:=B.z1.cells4;obtain⟨P,d1,d2,d3⟩:=B.z2.cells4;have f1:=B.z1.frozen;have f2:=B.z2.frozen;have y1:=B.z1.lt;have y2:=B.z2.lt
 go_wp2_with fail
 have ag:=(ao).Aj;have ah:=(af).Aj;have av:=(af).other ag.2.1 ag.2.2.1;have aw:=(ao).other HN.2.1 HN.2.2;have ax:=(af).other aw.2.1 aw.2.2;have F1:=Ac (show 0<S.Aj/\S.Aj<S.alloc.alloc.q/\S.Aj∉S.alloc.alloc.fr/\0<S.alloc.Aj/\S.alloc.Aj<S.alloc.alloc.q/\S.alloc.Aj∉S.alloc.alloc.fr/\0<n/\n<S.alloc.alloc.q/\n∉S.alloc.alloc.fr/\S.alloc.alloc.q<=65536 from⟨ag.1,av.2.1,av.2.2,ah.1,ah.2.1,ah.2.2.1,HN.1,ax.2.1,ax.2.2,bj.few⟩);clear ag ah av aw ax af bj HN ao;generalize S.Aj=a at *;generalize S.alloc.Aj=m2 at *;generalize S.alloc.alloc=S2 at *
 have L5:Loc ((w4.setCell ⟨b1,0,none⟩ (.int .i64 a)).setCell ⟨b1+1,0,none⟩ (.int .i64 m2)) N w.heap.size b1 (b1+1) #[.int .i64 n,.int .i64 kd,.int .i64 l,.slice A m cp] #[.int .i64 a,.int .i64 kd,.int .i64 l,.slice d cl.length f] #[.int .i64 m2,.int .i64 kd,.int .i64 l2,.slice o cr.length s] (.slice d cl.length f) (.slice o cr.length s) cl cr:=(B.set1 0 (.int .i64 a)).set2 0 (.int .i64 m2);have P5:=Ac ((P4.set B.n1 0 (.int .i64 a)).set B.n2 0 (.int .i64 m2))
 have bk:u≠b1:=by have:=U.out;have:=ap.out;omega
 have cj:u≠b1+1:=by have:=U.out;have:=ap.out;omega
 have M5:=Ac ((M4.set bk 0 (.int .i64 a)).set cj 0 (.int .i64 m2));have U5:=Ac ((U4.Dz U 0 (.int .i64 a)).Dz (VH U) 0 (.int .i64 m2));generalize ((w4.setCell ⟨b1,0,none⟩ (.int .i64 a)).setCell ⟨b1+1,0,none⟩ (.int .i64 m2))=V at *;clear P4 M4 B U4 O a1 a2 a3 P d1 d2 d3 f1 f2 y1 y2
 have bl:=Ac (show Calls Tryz.prog 130 #[.agg #[.int .i64 a,.int .i64 kd,.int .i64 l,.slice d cl.length f]] V (λe w'=>e = .returned (.bool lf)/\Below V.heap.size V w')from by
  rcases bb.out with⟨e,D,_⟩ |⟨e,D,_⟩
  ·rw[e,D];exact Pz a l _ V
  ·rw[e,D];exact Qr a l _ V)
 refine bl.mono ?_;rintro C w6 ⟨rfl,T⟩;have E:=Ac (L5.below T);have P6:=Ac (P5.below T);have M6:=Ac (M5.below T);have U6:=Ac (U5.next T);clear T L5 P5 M5 U5;clear bl
 go_upto_if 27 with fail
 go_cut [27] (λ_ wx=>Loc wx N w.heap.size b1 (b1+1) #[.int .i64 n,.int .i64 kd,.int .i64 l,.slice A m cp] #[.int .i64 a,.int .i64 kd,.int .i64 x,.slice d cl.length f] #[.int .i64 m2,.int .i64 kd,.int .i64 l2,.slice o cr.length s] (.slice d cl.length f) (.slice o cr.length s) cl cr/\PT wx N p S2 G (c+2+2) (k+4+4)/\TM wx N u p root/\Turn X N w wx)
 case first =>
  obtain⟨O,a1,a2,a3⟩:=E.z1.cells4;obtain⟨P,d1,d2,d3⟩:=E.z2.cells4;have f1:=E.z1.frozen;have y1:=E.z1.lt;have y2:=E.z2.lt
  rcases bb with⟨D,Y,Z⟩ |⟨D,Y,Z⟩
  ·rw [Y];have E3:=Ac Z;clear D Y Z
   go_wp2_with fail
   go_meet;rw[E3.out];exact⟨E.set1 2 (.int .i64 m2),P6.set E.n1 2 (.int .i64 m2),M6.set bk 2 (.int .i64 m2),U6.Dz U 2 (.int .i64 m2)⟩
  ·rw [Y];have E3:=Ac Z;clear D Y Z
   go_wp2_with fail
   go_meet;rw[E3.out];exact⟨E,P6,M6,U6⟩
 case rest =>
 obtain⟨L7,P7,M7,U7⟩:=hcut;clear E P6 M6 U6;obtain⟨O,a1,a2,a3⟩:=L7.z1.cells4;have y1:=L7.z1.lt
 go_wp2_with fail
 clear O a1 a2 a3
 have bm:Xu (kd,x,cl):=⟨by have:=ab.out;show 1<=kd;omega,by have:=ab.out;show kd<=5;omega,by have h1:=F1.out;have h2:=ac.1;have:=cf.out;show x<=2147483647;omega,ac.2.2.1⟩
 have bn:Xu (kd,l2,cr):=⟨by have:=ab.out;show 1<=kd;omega,by have:=ab.out;show kd<=5;omega,ac.2.1,ac.2.2.2⟩
 have bo:=Ac (λW X (h:PT W X p S2 G (c+2+2) (k+4+4)) (j:TM W X u p root) (H:SS W d cl.length cl)=>Hy (n:=a) (cp:=f) (pg:=(kd,x,cl)) h j (by have:=L.out;omega) (by have:=L.out;omega) F1.1 F1.2.1 F1.2.2.1 bm H (by have:=be.out;omega));have bp:=Ac (λW X (h:PT W X p (S2.set a (kd,x,cl)) G (c+2+2+1) (k+4+4+1)) (j:TM W X u p root) (H:SS W o cr.length cr)=>Hy (n:=m2) (cp:=s) (pg:=(kd,l2,cr)) h j (by have:=L.out;omega) (by have:=L.out;omega) F1.2.2.2.1 F1.2.2.2.2.1 F1.2.2.2.2.2.1 bn H (by have:=be.out;omega));clear bm bn y1;refine(bo _ N P7 M7 (SS.Ed L7.oa)).mono ?_
 rintro C w8 ⟨rfl,X8,bq,ai⟩;have L8:=Ac (L7.turn ai);have P8:=Ac bq;have M8:=Ac (M7.turn ai);have U8:=Ac (U7.trans ai);clear bq ai L7 P7 M7 U7 bo;obtain⟨P,d1,d2,d3⟩:=L8.z2.cells4
 go_wp2_with fail
 refine(bp _ X8 P8 M8 (SS.Ed L8.ob)).mono ?_;rintro C w9 ⟨rfl,X9,br,aj⟩;have L9:=Ac (L8.turn aj);have P9:=Ac br;have M9:=Ac (M8.turn aj);have U9:=Ac (U8.trans aj);clear br aj L8 P8 M8 U8 bp P d1 d2 d3
 go_wp2_with fail
 have FO:=Ac (λW=>Uf m2 (by have:=F1.out;omega) W);have CE:=Ac (λW=>Rq ⟨key,Ba m2⟩ bf (by simp[Ba]) W);have bs:AQ (⟨key,Ba m2⟩:It).k=K:=ch.out;rw[bs]at CE
 have bt:=Ac (λW X A c1 (h:PT W X p ((S2.set a (kd,x,cl)).set m2 (kd,l2,cr)) G (c+2+2+1+1) (k+4+4+1+1)) (j:TM W X u p root) (H:SS W A 1 [Af ⟨key,Ba m2⟩])=>Hy (n:=n) (cp:=c1) (pg:=(2,a,[Af ⟨key,Ba m2⟩])) h j (by have:=L.out;omega) (by have:=L.out;omega) F1.2.2.2.2.2.2.1 F1.2.2.2.2.2.2.2.1 F1.2.2.2.2.2.2.2.2.1 ⟨by show 1<=2;omega,by show 2<=5;omega,by have:=F1.out;show a<=2147483647;omega,by
  show Ce [Af ⟨key,Ba m2⟩]<=1012;unfold Ce;simp only[DW,KT,PW,List.sum_nil,Nr,fourL_len];have:=bf.out
  omega⟩ H (by omega))
 obtain⟨F,hF⟩:∃ F,AQ (Ba m2)=F:=⟨_,rfl⟩;obtain⟨t,ak⟩:∃ t,Af ⟨key,Ba m2⟩=t:=⟨_,rfl⟩;have bu:AQ (⟨key,Ba m2⟩:It).r=F:=hF;rw[bu,ak]at CE;rw[hF]at FO;rw[ak]at bt;have ck:=Ac ak;clear hF bu ak bs;have O:=L9.z1.cell 0;have P:=L9.z2.cell 0
 go_region_held3 (λw'=>w'.cell? ⟨b1,0,none⟩=some (.int .i64 a)/\w'.cell? ⟨b1+1,0,none⟩=some (.int .i64 m2)) (first | (with_reducible exact bv.out) | (with_reducible exact bw.out) | (with_reducible exact bx.out) | go_keep)
  (first
    |(go_at_call 134;refine(FO _).mono ?_;rintro C bz ⟨rfl,Q⟩;have al:=Ac ((L9.below ((AU _ _).drew)).below Q);have b0:=Ac ((ZM P9).below Q);have b2:=Ac ((M9.below ((AU _ _).drew)).below Q);have b3:=Ac ((U9.next ((AU _ _).drew)).next Q);have bx:=Ac (show bz.cell? ⟨b1,0,none⟩=some (.int .i64 a)/\bz.cell? ⟨b1+1,0,none⟩=some (.int .i64 m2)from⟨al.z1.cell 0,al.z2.cell 0⟩);clear Q)
    |(go_at_call 133;refine(CE _).mono ?_;rintro C b ⟨rfl,R⟩;have z:=Ac (al.below R);have b4:=Ac (b0.below R);have b5:=Ac (b2.below R);have b6:=Ac (b3.next R);obtain⟨z0,z1,z2,z3⟩:=z.z0.cells4;have zf:=z.z0.frozen;have zz:=z.z0.lt;have am:Hid (Loc ((((b.setCell ⟨w.heap.size,1,none⟩ (.int .i64 2)).setCell ⟨w.heap.size,2,none⟩ (.int .i64 a)).setCell ⟨w.heap.size,3,none⟩ (.slice (some ⟨b.heap.size,0,none⟩) 1 1)).alloc (.cells #[.string t] 9)) X9 w.heap.size b1 (b1+1) #[.int .i64 n,.int .i64 2,.int .i64 a,.slice (some ⟨b.heap.size,0,none⟩) 1 1] #[.int .i64 a,.int .i64 kd,.int .i64 x,.slice d cl.length f] #[.int .i64 m2,.int .i64 kd,.int .i64 l2,.slice o cr.length s] (.slice d cl.length f) (.slice o cr.length s) cl cr):=Ac ((((z.set0 1 (.int .i64 2)).set0 2 (.int .i64 a)).set0 3 (.slice (some ⟨b.heap.size,0,none⟩) 1 1)).below (Ag _ _));have bv:=Ac (show((((b.setCell ⟨w.heap.size,1,none⟩ (.int .i64 2)).setCell ⟨w.heap.size,2,none⟩ (.int .i64 a)).setCell ⟨w.heap.size,3,none⟩ (.slice (some ⟨b.heap.size,0,none⟩) 1 1)).alloc (.cells #[.string t] 9)).cell? ⟨b1,0,none⟩=some (.int .i64 a)/\((((b.setCell ⟨w.heap.size,1,none⟩ (.int .i64 2)).setCell ⟨w.heap.size,2,none⟩ (.int .i64 a)).setCell ⟨w.heap.size,3,none⟩ (.slice (some ⟨b.heap.size,0,none⟩) 1 1)).alloc (.cells #[.string t] 9)).cell? ⟨b1+1,0,none⟩=some (.int .i64 m2)from⟨am.z1.cell 0,am.z2.cell 0⟩);have bw:=Ac (show b.cell? ⟨b1,0,none⟩=some (.int .i64 a)/\b.cell? ⟨b1+1,0,none⟩=some (.int .i64 m2)from⟨z.z1.cell 0,z.z2.cell 0⟩);clear R))
 go_wp2_with fail
 have ay:u≠w.heap.size:=by have:=ap.out;omega
 have b7:=Ac ((((b4.set z.n0 1 (.int .i64 2)).set z.n0 2 (.int .i64 a)).set z.n0 3 (.slice (some ⟨b.heap.size,0,none⟩) 1 1)).below (Ag _ (.cells #[.string t] 9)));have b8:=Ac ((((b5.set ay 1 (.int .i64 2)).set ay 2 (.int .i64 a)).set ay 3 (.slice (some ⟨b.heap.size,0,none⟩) 1 1)).below (Ag _ (.cells #[.string t] 9)));have b9:=Ac ((((b6.Dz (AY _) 1 (.int .i64 2)).Dz (AY _) 2 (.int .i64 a)).Dz (AY _) 3 (.slice (some ⟨b.heap.size,0,none⟩) 1 1)).next (Ag _ (.cells #[.string t] 9)))
 have a4:SS ((((b.setCell ⟨w.heap.size,1,none⟩ (.int .i64 2)).setCell ⟨w.heap.size,2,none⟩ (.int .i64 a)).setCell ⟨w.heap.size,3,none⟩ (.slice (some ⟨b.heap.size,0,none⟩) 1 1)).alloc (.cells #[.string t] 9)) (some ⟨b.heap.size,0,none⟩) 1 [t]:=by
  have q:=Has.new (((b.setCell ⟨w.heap.size,1,none⟩ (.int .i64 2)).setCell ⟨w.heap.size,2,none⟩ (.int .i64 a)).setCell ⟨w.heap.size,3,none⟩ (.slice (some ⟨b.heap.size,0,none⟩) 1 1)) 9 #[.string t]
  have e:(((b.setCell ⟨w.heap.size,1,none⟩ (.int .i64 2)).setCell ⟨w.heap.size,2,none⟩ (.int .i64 a)).setCell ⟨w.heap.size,3,none⟩ (.slice (some ⟨b.heap.size,0,none⟩) 1 1)).heap.size=b.heap.size:=by simp
  rw[e]at q;refine⟨rfl,λ_=>⟨_,_,rfl,q.lt,λi v hv=>?_⟩⟩
  have hi:i=0:=by have:=(C9.1 hv).1;simp at this;omega
  subst hi
  have cm:t=v:=by simpa using hv
  subst cm;exact q.cell 0
 have cc:=Ac a4;clear a4 bx bw bv L9 al z P9 b0 b4 M9 b2 b5 U9 b3 b6 z0 z1 z2 z3 zf zz O P FO CE;generalize ((((b.setCell ⟨w.heap.size,1,none⟩ (.int .i64 2)).setCell ⟨w.heap.size,2,none⟩ (.int .i64 a)).setCell ⟨w.heap.size,3,none⟩ (.slice (some ⟨b.heap.size,0,none⟩) 1 1)).alloc (.cells #[.string t] 9))=cn at *;generalize b.heap.size=cd at *;refine(Qr n a (.slice (some ⟨cd,0,none⟩) 1 1) cn).mono ?_;rintro C c2 ⟨rfl,J⟩;have co:=Ac (am.below J);have cq:=Ac (b7.below J);have ct:=Ac (b8.below J);have cu:=Ac (b9.next J);have cv:=Ac (cc.keep J);clear J am b7 b8 b9 cc;obtain⟨z0,z1,z2,z3⟩:=co.z0.cells4
 go_wp2_with (go_at_call 46;refine(bt _ X9 (some ⟨cd,0,none⟩) 1 cq ct cv).mono ?_;rintro C c3 ⟨rfl,cw,a5,a6⟩;have cx:=Ac a5;have cy:=Ac a6;clear a5 a6)
 have q:=cx.out;rw[<- ck.out]at q;have cz:=Ac q;clear q
 go_end0
 exact⟨rfl,cw,cz,cu.trans cy⟩
def KZ:Nat->St->Ky->St
 | 0,S,v=>S.alloc.set S.Aj (5,0,[AQ v])
 | j+1,S,v=>if 1008<v.length then(KZ j S.alloc (v.drop 1008)).set S.Aj (5,S.alloc.Aj,[AQ (v.take 1008)])else S.alloc.set S.Aj (5,0,[AQ v])
def St.kY{S:St}(h:GY S){n:Nat}{p:Pg}(f:0<n)(a:n∉S.fr)(b:Xu p):GY (S.set n p):=by
 refine⟨h.pos,h.few,h.rng,h.nd,Jz h.chain λx c=>Be λe=>a (e ▸ c), ?_,λm d=>?_⟩
 ·show Ja S.G n p 0=_;rw[Be (by omega)];exact h.root
 ·show Xu (Ja S.G n p m);by_cases e:m=n
  ·rw[e,Dq];exact b
  ·rw[Be e];exact h.pg m d
def St.Qd{S:St}(h:GY S)(o:S.q<=65000):GY S.alloc:=by
 have l:=h.few;unfold St.alloc
 cases a:S.fr with
 | nil =>
   refine⟨Nat.succ_pos _,by show S.q+1<=_;omega,(λx j=>by cases j),VM,trivial, ?_,λm c=>?_⟩
   ·have p:=h.pos;show Ja S.G S.q (3,0,[]) 0=_;rw[Be (by omega),h.root,a]
   ·have n:m<S.q+1:=c;show Xu (Ja S.G S.q (3,0,[]) m);by_cases e:m=S.q
    ·rw[e,Dq];exact Me (by omega) (by omega) (by omega)
    ·rw[Be e];exact h.pg m (by omega)
 | cons x r =>
   have s:=h.rng x (by rw[a];exact AZ);have f:=h.chain;have d:=h.nd;rw[a]at f d;obtain⟨k,n2⟩:=FP.1 d
   have u:r.headD 0<=65536:=by
    cases i:r with
    | nil=>exact BR _
    | cons y t=>have:=(h.rng y (by rw[a,i];simp)).2;show y<=_;omega
   refine⟨h.pos,h.few,λy b=>h.rng y (by rw[a];exact BF _ b),n2,Jz f.2 λy b=>?_, ?_,λm c=>?_⟩
   ·have:y≠x:=λe=>k (e ▸ b);show Ja (Ja S.G 0 _) x _ y=S.G y;rw[Be this,Be (by have:=(h.rng y (by rw[a];exact BF _ b)).1;omega)]
   ·show Ja (Ja S.G 0 _) x _ 0=_;rw[Be (by omega),Dq]
   ·show Xu (Ja (Ja S.G 0 (4,r.headD 0,[])) x (3,0,[]) m);by_cases e:m=x
    ·rw[e,Dq];exact Me (by omega) (by omega) (by omega)
    ·rw [Be e];by_cases g:m=0
     ·rw[g,Dq];exact Me (by omega) (by omega) (by omega)
     ·rw[Be g];exact h.pg m c
def Wh{l:Nat}{v:Ky}(a:l<=2147483647)(b:v.length<=1008):Xu (5,l,[AQ v]):=⟨by show 1<=5;omega,by show 5<=5;omega,a,by
 show Ce [AQ v]<=1012;unfold Ce
 simp only[DW,KT,PW,List.sum_nil,Bf];omega⟩
structure PZ1 (S S':St) (j:Nat):Prop where
 ok:GY S'
 q1:S.q<=S'.q
 q2:S'.q<=S.q+j+1
 keep:∀ x,x<S.q->x∉S.fr->x∉S'.fr/\(x≠0->S'.G x=S.G x)
 fst:S.Aj∉S'.fr
def dW:∀ (j:Nat) {S:St} {v:Ky},GY S->S.q+j<=60000->v.length<=1008*(j+1)->PZ1 S (KZ j S v) j
 | 0,S,v,h,hq,hv=>by
   have a:=h.Aj;refine⟨St.kY (St.Qd h (by omega)) a.1 a.2.2.1 (Wh (by omega) (by omega)),a.2.2.2.1,a.2.2.2.2,λx d e=>?_,a.2.2.1⟩;have b:=h.other d e;exact⟨b.2.2,λc=>(Be b.1).trans (h.SG c b.1)⟩
 | j+1,S,v,h,hq,hv=>by
   have a:=h.Aj;have f:=St.Qd h (by omega);unfold KZ;by_cases g:1008<v.length
   ·rw [AC g];have m:=dW j (v:=v.drop 1008) f (by omega) (by rw[DJ];omega);have i:=m.keep S.Aj a.2.1 a.2.2.1;have l:=f.Aj;refine⟨St.kY m.ok a.1 i.1 (Wh (by have:=f.few;have:=l.2.2.2.2;omega) (by rw[CU];omega)),BN a.2.2.2.1 m.q1,by have:=m.q2;show _<=_;exact BN m.q2 (by omega),λx d e=>?_,i.1⟩;have b:=h.other d e;have k:=m.keep x b.2.1 b.2.2;exact⟨k.1,λc=>(Be b.1).trans ((k.2 c).trans (h.SG c b.1))⟩
   ·rw [AO g];refine⟨St.kY f a.1 a.2.2.1 (Wh (by omega) (by omega)),a.2.2.2.1,by show S.alloc.q<=_;omega,λx d e=>?_,a.2.2.1⟩;have b:=h.other d e;exact⟨b.2.2,λc=>(Be b.1).trans (h.SG c b.1)⟩
def Xi {w:World} {X:List (Option Nat)} {E p root c k:Nat} {S b:St} {v:Ky} (h:PT w X p S b c k) (d:TM w X E p root) (N:c+3<=60000) (O:k<=800000000) (P:S.q<=59000) (a:v.length<=1008) :
 Calls Tryz.prog 135 #[.pointer (some ⟨E,0,none⟩),.string (AQ v)] w (Gw X w p (S.alloc.set S.Aj (5,0,[AQ v])) b (c+3) (k+5) (.int .i64 S.Aj)):=by
 have x:=h.ok;have f:=x.Aj;have Q:=Ac (Z9 h (by omega) (by omega) (by omega));have t:=Ac (λW X (h:PT W X p S.alloc b (c+2) (k+4))=>gY h (by omega) (by omega) f.1 f.2.1 f.2.2.1 (Wh (l:=0) (by omega) a));have R:=Ac d
 have T:(AQ v).size<=1008:=by rw[Bf];exact a
 have g:=Ac (λW A (h:SS W A 1 [AQ v])=>Uh 5 0 A 1 1 [AQ v] W h (by omega) (by unfold Ce;simp only[DW,KT,PW,List.sum_nil];omega));have F:Dj (5:Int) (0:Int) [AQ v]=Qe (5,0,[AQ v]):=rfl
 have G:Qz (5:Int) (0:Int) [AQ v]=0:=by
  unfold Qz;rw[AO (by omega),AO (by unfold Ce;simp only[DW,KT,PW,List.sum_nil];omega)]
 rw[F,G]at g;obtain⟨s,j⟩:∃ s,AQ v=s:=⟨_,rfl⟩;rw[j]at g T;have U:=Ac j;have V:=Ac (show s.extract 0 s.size=s from ByteArray.extract_zero_size);rw[j]at t;obtain⟨H,y⟩:∃ H,Qe (5,0,[s])=H:=⟨_,rfl⟩;rw[y]at g t;rw[U.out];have m:=d.has.cells2.1;have n:=d.has.lt;clear h d N O P x f j y F G a;go_enter Tryz.func135,Tryz.ntmps135
 go_wp2_with (first
  |(go_at_call 45;refine Q.mono ?_;rintro I w1 ⟨rfl,X1,z,r⟩;have Y:=Ac z;have Z:=Ac r;have u:=Ac (R.turn r);clear z r m n;have m:=u.has.cells2.1;have n:=u.has.lt)
  |(go_at_call 129;refine(Gp _).mono ?_;rintro e w1 ⟨rfl,rfl⟩))
 rw[show(min (s.size:Int) 1008).toNat=s.size by omega,V.out];have q:=Has.new w1 9 #[.string s]
 have B:SS (w1.alloc (.cells #[.string s] 9)) (some ⟨w1.heap.size,0,none⟩) 1 [s]:=by
  refine⟨rfl,λ_=>⟨_,_,rfl,q.lt,λi v a=>?_⟩⟩
  have hi:i=0:=by have:=(C9.1 a).1;simp at this;omega
  subst hi
  have L:s=v:=by simpa using a
  subst L;exact q.cell 0
 refine(g _ _ B).mono ?_;rintro I w2 ⟨rfl,hb2⟩;have o:=Ap (Ag w1 (.cells #[.string s] 9)) hb2 (by simp);have P2:=Ac (Y.below o);have J:=Ac (u.below o);have U2:=Ac (Z.next o);clear q B hb2 o m n;have m:=J.has.cells2.1;have n:=J.has.lt
 go_wp2_with (first
  |(go_at_call 72;refine(t _ _ P2).mono ?_;rintro I w3 ⟨rfl,K,C,D⟩;have P3:=Ac C;have U3:=Ac D;clear C D)
  |(go_at_call 129;refine(Gp _).mono ?_;rintro e w1 ⟨rfl,rfl⟩))
 have M:=Ac (show PT w3 K p (S.alloc.set S.Aj (5,0,[s])) b (c+3) (k+5)from P3);go_ret;exact⟨rfl,K,M,U2.trans U3⟩
def JX0 {w:World} {X:List (Option Nat)} {g p root c k j:Nat} {S d:St} {v:Ky} (h:PT w X p S d c k) (l:TM w X g p root) (hc:c+3*(j+2)<=60000) (hk:k+5*(j+2)<=800000000) (hq:S.q+j<=58000) (m:1008<v.length) (C:v.length<=1008*(j+2)) (aa:v.length<=100000)
 (Y:∀ W X,PT W X p S.alloc d (c+2) (k+4)->TM W X g p root->Calls Tryz.prog 135 #[.pointer (some ⟨g,0,none⟩),.string (AQ (v.drop 1008))] W (Gw X W p (KZ j S.alloc (v.drop 1008)) d (c+2+3*(j+1)) (k+4+5*(j+1)) (.int .i64 S.alloc.Aj))) :
 Calls Tryz.prog 135 #[.pointer (some ⟨g,0,none⟩),.string (AQ v)] w (Gw X w p ((KZ j S.alloc (v.drop 1008)).set S.Aj (5,S.alloc.Aj,[AQ (v.take 1008)])) d (c+2+3*(j+1)+1) (k+4+5*(j+1)+1) (.int .i64 S.Aj)):=by
 have D:=h.ok;have f:=D.Aj;have n:=St.Qd D (by omega);have ab:=n.Aj;have H:=dW j (v:=v.drop 1008) n (by omega) (by rw[DJ];omega);have Z:=H.keep S.Aj f.2.1 f.2.2.1;have AL:=Ac (Z9 h (by omega) (by omega) (by omega));have b:Xu (5,S.alloc.Aj,[AQ (v.take 1008)]):=Wh (by have:=n.few;omega) (by rw[CU];omega);have I:=Ac (λW X (h:PT W X p (KZ j S.alloc (v.drop 1008)) d (c+2+3*(j+1)) (k+4+5*(j+1)))=>gY h (by omega) (by omega) f.1 (DD f.2.1 H.q1) Z.1 b);have HT:=Ac l;have M:=Ac Y;have o:=Ac (λW A (h:SS W A 1 [AQ (v.take 1008)])=>Uh 5 (S.alloc.Aj:Nat) A 1 1 [AQ (v.take 1008)] W h (by omega) (by have a4:Ce [AQ (v.take 1008)]<=1012:=b.2.2.2;omega))
 have es:Dj (5:Int) ((S.alloc.Aj:Nat):Int) [AQ (v.take 1008)]=Qe (5,S.alloc.Aj,[AQ (v.take 1008)]):=rfl
 have ee:Qz (5:Int) ((S.alloc.Aj:Nat):Int) [AQ (v.take 1008)]=0:=by
  have a3:S.alloc.Aj<=2147483647:=b.2.2.1;have a4:Ce [AQ (v.take 1008)]<=1012:=b.2.2.2;unfold Qz;rw[AO (by omega),AO (by omega)]
 rw[es,ee]at o;have J:(AQ v).size=v.length:=Bf v
 have r:(AQ v).extract 0 1008=AQ (v.take 1008):=by
  rw[<- Jy ((AQ v).extract 0 1008),RG,Cb];rfl
 have t:(AQ v).extract 1008 (AQ v).size=AQ (v.drop 1008):=by
  rw[<- Jy ((AQ v).extract 1008 (AQ v).size),RG,Cb,J,EE (by rw[DJ];omega)]
 obtain⟨s,hs⟩:∃ s,AQ v=s:=⟨_,rfl⟩;rw[hs]at r t J ⊢;obtain⟨a,E⟩:∃ s,AQ (v.take 1008)=s:=⟨_,rfl⟩;obtain⟨s2,N⟩:∃ s,AQ (v.drop 1008)=s:=⟨_,rfl⟩;rw[E]at r o I;rw[N]at t M;obtain⟨sp,O⟩:∃ sp,Qe (5,S.alloc.Aj,[a])=sp:=⟨_,rfl⟩;rw[O]at o I;have ac:=Ac E;have E1:=Ac r;have E2:=Ac t
 have z1:1008<s.size:=by omega
 have z2:s.size<=100000:=by omega
 have u:=l.has.cells2.1;have x:=l.has.lt;clear h l hc hk hq D f n ab H Z b es ee J r t hs E N O m C aa Y;go_enter Tryz.func135,Tryz.ntmps135
 go_wp2_with (first
  |(go_at_call 45;refine AL.mono ?_;rintro K w1 ⟨rfl,X1,P,F⟩;have P1:=Ac P;have U1:=Ac F;have y:=Ac (HT.turn F);clear P F u x;have u:=y.has.cells2.1;have x:=y.has.lt)
  |(go_at_call 129;refine(Gp _).mono ?_;rintro e w1 ⟨rfl,rfl⟩))
 have em:(min (s.size:Int) 1008).toNat=1008:=by omega
 rw[em,E2.out];refine(M _ _ P1 y).mono ?_;rintro K z ⟨rfl,X2,Q,G⟩;have P2:=Ac Q;have M2:=Ac (y.turn G);have U2:=Ac (U1.trans G);clear Q G u x
 go_wp2_with fail
 rw[E1.out];clear em;have q:=Has.new z 9 #[.string a]
 have R:SS (z.alloc (.cells #[.string a] 9)) (some ⟨z.heap.size,0,none⟩) 1 [a]:=by
  refine⟨rfl,λ_=>⟨_,_,rfl,q.lt,λi v m=>?_⟩⟩
  have hi:i=0:=by have:=(C9.1 m).1;simp at this;omega
  subst hi
  have C:a=v:=by simpa using m
  subst C;exact q.cell 0
 refine(o _ _ R).mono ?_;rintro K w3 ⟨rfl,T⟩;have B:=Ap (Ag z (.cells #[.string a] 9)) T (by simp);have P3:=Ac (P2.below B);have M3:=Ac (M2.below B);have U3:=Ac (U2.next B);clear q R T B;have u:=M3.has.cells2.1;have x:=M3.has.lt
 go_wp2_with (first
  |(go_at_call 72;refine(I _ _ P3).mono ?_;rintro K w4 ⟨rfl,X4,U,V⟩;have P4:=Ac U;have U4:=Ac V;clear U V)
  |(go_at_call 129;refine(Gp _).mono ?_;rintro e w1 ⟨rfl,rfl⟩))
 have L:=P4.out;rw[<- ac.out]at L;have Q4:=Ac L;clear L;go_ret;exact⟨rfl,X4,Q4,U3.trans U4⟩
def vH:∀ (j:Nat) {w:World} {X:List (Option Nat)} {a p root c k:Nat} {S b:St} {v:Ky},PT w X p S b c k->TM w X a p root->c+3*(j+1)<=60000->k+5*(j+1)<=800000000->S.q+j<=57000->v.length<=1008*(j+1)->v.length<=100000 ->
 Calls Tryz.prog 135 #[.pointer (some ⟨a,0,none⟩),.string (AQ v)] w (Gw X w p (KZ j S v) b (c+3*(j+1)) (k+5*(j+1)) (.int .i64 S.Aj))
 | 0,w,X,a,p,root,c,k,S,b,v,h,ht,hc,hk,hq,hv,_=>Xi h ht (by omega) (by omega) (by omega) (by omega)
 | j+1,w,X,a,p,root,c,k,S,b,v,h,ht,hc,hk,hq,hv,hv3=>by
   unfold KZ;by_cases d:1008<v.length
   ·rw [AC d];have n:=h.ok.Aj;refine(JX0 h ht (by omega) (by omega) (by omega) d (by omega) hv3 (λW X' i l=>vH j i l (by omega) (by omega) (by omega) (by rw[DJ];omega) (by rw[DJ];omega))).mono ?_;rintro m w' ⟨e,X',f,g⟩;exact⟨e,X',f.more (by omega) (by omega),g⟩
   ·rw [AO d];refine(Xi h ht (by omega) (by omega) (by omega) (by omega)).mono ?_;rintro m w' ⟨e,X',f,g⟩;exact⟨e,X',f.more (by omega) (by omega),g⟩
def Nb(v:Ky):Ky:=0 :: v
def Nh(len n:Nat):Ky:=1 :: UInt8.ofNat (len / 256) :: UInt8.ofNat len :: Ba n
def EF0 {w:World} {tv:Value} {key v:Ky} (a:2+key.length+v.length<=240) (b:key.length<=200) :
 Calls Tryz.prog 50 #[tv,.string (AQ key),.string (AQ v)] w λe w'=>e = .returned (.string (Af ⟨key,Nb v⟩))/\Below w.heap.size w w':=by
 have c:=Ac (λW=>Rq ⟨key,Nb v⟩ b (by simp[Nb];omega) W);have d:AQ (⟨key,Nb v⟩:It).k=AQ key:=rfl
 have f:AQ (⟨key,Nb v⟩:It).r=⟨#[0]⟩++AQ v:=by
  show AQ ([0]++v)=_;rw[<- WE];rfl
 rw[d,f]at c;have h:(AQ key).size=key.length:=Bf _;have i:(AQ v).size=v.length:=Bf _;generalize AQ key=K at *;generalize AQ v=V at *;generalize Af ⟨key,Nb v⟩=C at *
 have j:2+K.size+V.size<=240:=by omega
 clear h i a b d f;go_enter Tryz.func50,Tryz.ntmps50
 go_wp2_with (first |(go_at_call 133;refine(c _).mono ?_;rintro e w1 ⟨rfl,g⟩;obtain⟨l,m⟩:=Yj g;have a:=g.size;(try simp at a)))
 go_ret;refine⟨rfl, ?_⟩
 (repeat(first | exact AU _ _ | assumption |(refine YL ?_ (by first | omega |(simp <;> omega)) _) | refine LJ ?_ |(refine YM ?_ (by first | omega |(simp <;> omega)) _) |(refine Ap ?_ (by assumption) (by first | omega |(simp <;> omega)))))
def ZC0(W:World)(g n:Nat)(h:Has W g 5 #[.int .u8 1,.int .u8 (IntKind.u8.wrap ((n:Int) / 256)),.int .u8 (IntKind.u8.wrap (n:Int))]):(convert 39 9 (.slice (some ⟨g,0,none⟩) 3 3)).run Tryz.prog W = .ok (.string (AQ [1,UInt8.ofNat (n / 256),UInt8.ofNat n])) W:=by
 have e:CG [1,UInt8.ofNat (n / 256),UInt8.ofNat n]=[.int .u8 1,.int .u8 ((n:Int) / 256 % 256),.int .u8 ((n:Int) % 256)]:=by
  simp only[CG,LU,DW,KT,Iw];rw[show((n / 256:Nat):Int)=(n:Int) / 256 by omega];rfl
 rw[IntKind.wrap_u8',IntKind.wrap_u8']at h;have:=UR (c:=3) (BS.VS (w:=W) (g:=g) (l:=[1,UInt8.ofNat (n / 256),UInt8.ofNat n]) (by rw[e];exact h));exact this
def GK0 {w:World} {X:List (Option Nat)} {u p root c k:Nat} {S x:St} {key v:Ky} (h:PT w X p S x c k) (j:TM w X u p root) (hc:c+9<=60000) (hk:k<=700000000) (hq:S.q<=50000) (H:key.length<=200) (hz:240<2+key.length+v.length) (hv:v.length<=3000) :
 Calls Tryz.prog 50 #[.pointer (some ⟨u,0,none⟩),.string (AQ key),.string (AQ v)] w (Gw X w p (KZ 2 S v) x (c+9) (k+15) (.string (Af ⟨key,Nh v.length S.Aj⟩))):=by
 have y:=Ac (λW (h:PT W X p S x c k) (j:TM W X u p root)=>vH 2 (v:=v) h j (by omega) (by omega) (by omega) (by omega) (by omega));have ha:=h.ok.Aj;have aa:=h.ok.few;have I:=Ac (λW=>Uf S.Aj (by omega) W);have b:=Ac (λW=>Rq ⟨key,Nh v.length S.Aj⟩ H (by simp[Nh,Ba]) W);have J:AQ (⟨key,Nh v.length S.Aj⟩:It).k=AQ key:=rfl
 have L:AQ (⟨key,Nh v.length S.Aj⟩:It).r=AQ [1,UInt8.ofNat (v.length / 256),UInt8.ofNat v.length]++AQ (Ba S.Aj):=by
  rw[WE];rfl
 rw[J,L]at b;have M:(AQ key).size=key.length:=Bf _;have z:(AQ v).size=v.length:=Bf _;have d:=Ac (λW g=>ZC0 W g v.length);rw[<- z]at d b ⊢;have N:=Ac h;have O:=Ac j;obtain⟨K,P⟩:∃ s,AQ key=s:=⟨_,rfl⟩;obtain⟨V,Q⟩:∃ s,AQ v=s:=⟨_,rfl⟩;obtain⟨F,A⟩:∃ s,AQ (Ba S.Aj)=s:=⟨_,rfl⟩;rw[Q]at d b z y ⊢;rw[P]at b M ⊢;rw[A]at I b;obtain⟨T,B⟩:∃ s,AQ [1,UInt8.ofNat (V.size / 256),UInt8.ofNat V.size]=s:=⟨_,rfl⟩;rw[B]at d b
 have zT:T.size=3:=by rw[<- B,Bf];rfl
 have zF:F.size=4:=by rw[<- A,Bf];rfl
 obtain⟨C,R⟩:∃ s,Af ⟨key,Nh V.size S.Aj⟩=s:=⟨_,rfl⟩;rw[R]at b ⊢
 have y1:240<2+K.size+V.size:=by omega
 have y2:K.size<=200:=by omega
 have y3:V.size<=3000:=by omega
 have y4:T.size<=3:=by omega
 have y5:F.size<=4:=by omega
 have NB:Hid (some w.heap.size∉X):=Ac (λhm=>by have:=h.lt _ hm;omega);clear h j hc hk hq H hz hv ha aa J L M z P Q A B zT zF R;have U:=Ac (λW=>d (W.alloc (.cells #[.int .u8 1,.int .u8 (IntKind.u8.wrap ((V.size:Int) / 256)),.int .u8 (IntKind.u8.wrap (V.size:Int))] 5)) W.heap.size (Has.new W 5 #[.int .u8 1,.int .u8 (IntKind.u8.wrap ((V.size:Int) / 256)),.int .u8 (IntKind.u8.wrap (V.size:Int))]))
 have c0:=(d (w.alloc (.cells #[.int .u8 1,.int .u8 (IntKind.u8.wrap ((V.size:Int) / 256)),.int .u8 (IntKind.u8.wrap (V.size:Int))] 5)).drew w.heap.size (Has.new w 5 #[.int .u8 1,.int .u8 (IntKind.u8.wrap ((V.size:Int) / 256)),.int .u8 (IntKind.u8.wrap (V.size:Int))]).drew)
 go_enter Tryz.func50,Tryz.ntmps50
 go_wp2_with fail
 go_region_with (first
  |(go_at_call 133;refine(b _).mono ?_;rintro D w4 ⟨rfl,f⟩;(first |(have Y:=Ac (l.next f);have Z:=Ac (m.below f)) |(have Y:=Ac ((l.next (Ag _ _)).next f);have Z:=Ac ((m.below (Ag _ _)).below f)));clear f)
  |(go_at_call 134;refine(I _).mono ?_;rintro D E ⟨rfl,a⟩;have c2:=U E;first |(have G:=Ac (G2.Ai a);have c3:=d E _ G;have l:=Ac (n.next a);have m:=Ac (o.below a)) |(have l:=Ac (n.next a);have m:=Ac (o.below a)) |(have l:=Ac ((n.next (Ag _ _)).next a);have m:=Ac ((o.below (Ag _ _)).below a);have G:=Ac ((Has.new t 5 #[.int .u8 1,.int .u8 (IntKind.u8.wrap ((V.size:Int) / 256)),.int .u8 (IntKind.u8.wrap (V.size:Int))]).Ai a);have c3:=d E _ G);clear a)
  |(go_at_call 135;first
      |(refine(y _ (ZM N) (O.below ((AU _ _).drew))).mono ?_;rintro D t ⟨rfl,X2,i,e⟩;have o:=Ac i;have n:=Ac (((Turn.refl X w).next ((AU _ _).drew)).trans e);have c2:=U t;clear i e)
      |(refine(y _ ((N.below (Ag _ _)).below ((AU _ _).drew)) ((O.below (Ag _ _)).below ((AU _ _).drew))).mono ?_;rintro D t ⟨rfl,X2,i,e⟩;have o:=Ac i;have G2:=Ac (e.has (Has.new w 5 #[.int .u8 1,.int .u8 (IntKind.u8.wrap ((V.size:Int) / 256)),.int .u8 (IntKind.u8.wrap (V.size:Int))]).drew NB);have c2:=d t _ G2;have n:=Ac (((Turn.refl X w).next (Ag _ _)).next ((AU _ _).drew) |>.trans e);clear i e)))
 all_goals
  go_wp2_with fail
  go_ret;exact⟨rfl,X2,Z,Y⟩
def WV (G:Nat->Pg):List Nat->Prop
 | []=>True
 | p :: r=>(∃ v,G p=(5,r.headD 0,[v]))/\WV G r
def zU {G G':Nat->Pg}:∀ {l:List Nat},WV G l->(∀ x∈l,G' x=G x)->WV G' l
 | [],_,_=>trivial
 | x :: r,h,hc=>⟨by obtain⟨v,a⟩:=h.1;exact⟨v,(hc x AZ).trans a⟩,zU h.2 λy b=>hc y (BF _ b)⟩
structure V5 (S:St) (ps:List Nat):Prop where
 link:WV S.G ps
 nd:ps.Nodup
 rng:∀ x∈ps,0<x/\x<S.q/\x∉S.fr
def V5.free{S:St}{p:Nat}{r:List Nat}(h:V5 S (p :: r)):V5 (S.free p) r:=by
 obtain⟨d,n2⟩:=FP.1 h.nd;refine⟨zU h.link.2 λx a=>?_,n2,λx a=>?_⟩
 ·have f:=(h.rng x (BF _ a)).1;show Ja (Ja S.G p _) 0 _ x=S.G x;rw[Be (by omega),Be (λe=>d (by rw[<- e];exact a))]
 ·have b:=h.rng x (BF _ a);refine⟨b.1,b.2.1,λc=>?_⟩
  rcases BI.1 c with e | c
  ·exact d (by rw[<- e];exact a)
  ·exact b.2.2 c
def Bl(S:St)(ps:List Nat):St:=ps.foldl St.free S
def RR1(w:World)(X:List (Option Nat))(p d root c k:Nat)(S e:St)(ps:List Nat)(g:Nat)(f:Value)(wr:World):Prop :=
 ∃ a b X',ps=a++b/\b.length=g/\f = .int .i64 (b.headD 0:Nat)/\V5 (Bl S a) b/\PT wr X' p (Bl S a) e (c+2*a.length) (k+4*a.length)/\Turn X X' w wr/\TM wr X' d p root
def Ur {w:World} {X:List (Option Nat)} {A p root c k:Nat} {S i:St} {key:Ky} {a b:UInt8} {ps:List Nat} (h:PT w X p S i c k) (B:TM w X A p root) (hc:c+2*ps.length<=60000) (hk:k+4*ps.length<=800000000) (Y:key.length<=200) (H:V5 S ps) (Z:ps≠[]) :
 Calls Tryz.prog 52 #[.pointer (some ⟨A,0,none⟩),.string (Af ⟨key,1 :: a :: b :: Ba (ps.headD 0)⟩)] w (Gw X w p (Bl S ps) i (c+2*ps.length) (k+4*ps.length) (.tuple #[])):=by
 have l:=h.ok;have m:=Ac (λW=>Ui ⟨key,1 :: a :: b :: Ba (ps.headD 0)⟩ Y (by simp[Ba]) W)
 have af:ps.headD 0<=65536:=by
  cases hp:ps with
  | nil=>exact absurd hp Z
  | cons x r=>have:=(H.rng x (by rw[hp];exact AZ)).2.1;have:=l.few;show x<=_;omega
 have C:=Ac (λW=>Uu (Ba (ps.headD 0)) rfl W);rw[Ha (by omega)]at C;have o:AQ (⟨key,1 :: a :: b :: Ba (ps.headD 0)⟩:It).r=AQ (1 :: a :: b :: Ba (ps.headD 0)):=rfl;rw[o]at m
 have K:(AQ (1 :: a :: b :: Ba (ps.headD 0))).size=7:=by rw[Bf];simp[Ba]
 have D:(AQ (1 :: a :: b :: Ba (ps.headD 0))).extract 3 (AQ (1 :: a :: b :: Ba (ps.headD 0))).size=AQ (Ba (ps.headD 0)):=by
  rw[<- Jy ((AQ (1 :: a :: b :: Ba (ps.headD 0))).extract 3 _),RG,Cb,K];rfl
 have e0:=V8 (s:=AQ (1 :: a :: b :: Ba (ps.headD 0))) (by omega);have b0:∀ E:0<(AQ (1 :: a :: b :: Ba (ps.headD 0))).size,((AQ (1 :: a :: b :: Ba (ps.headD 0)))[0]'E).toNat=1:=λE=>rfl;obtain⟨s,M⟩:∃ s,AQ (1 :: a :: b :: Ba (ps.headD 0))=s:=⟨_,rfl⟩;rw[M]at m K D e0
 have b1:∀ E:0<s.size,(s[0]'E).toNat=1:=by subst M;exact b0
 obtain⟨s4,aa⟩:∃ s,AQ (Ba (ps.headD 0))=s:=⟨_,rfl⟩;rw[aa]at C D;obtain⟨cb,ab⟩:∃ s,Af ⟨key,1 :: a :: b :: Ba (ps.headD 0)⟩=s:=⟨_,rfl⟩;rw[ab]at m ⊢;have E3:=Ac D
 have ag:0<s.size:=by omega
 have b2:=b1 ag
 have e9:((s[0].toNat:Int) == 0)=false:=by rw[b2];rfl
 have z8:3<=s.size:=by omega
 have z9:(3:Int)<=(s.size:Int):=by omega
 have HP:=Ac h;have HT:=Ac B;have u:=Ac (AV hc hk);have ah:=Ac H;clear h B hc hk Y H Z l af o M b0 b1 aa ab D b2 K;go_enter Tryz.func52,Tryz.ntmps52
 go_wp2_with (first
  |(go_at_call 136;refine(m _).mono ?_;rintro e w1 ⟨rfl,rfl⟩))
 rw[E3.out];refine(C _).mono ?_;rintro en w1 ⟨rfl,y⟩;have N:=Ac (HP.below y);have O:=Ac (HT.below y);have P:=Ac (Turn.below X y);clear y m C
 go_wp2_with fail
 go_loopg [5] ps.length (λg v5 wr=>RR1 w X p A root c k S i ps g v5 wr)
 case atStart=>exact⟨[],ps,X,rfl,rfl,by simp,ah,N,P,O⟩
 case round =>
  obtain⟨d,ae,F,j,Q,rfl,q,t,G,R⟩:=hrel
  cases ae with
  | nil =>
    have ai:=Ac (show PT wr F p (Bl S ps) i (c+2*ps.length) (k+4*ps.length)from by rw[GI]at j;rw[j];exact t);have UF:=Ac G;clear j Q q t G R N O P
    go_wp2_with fail
    go_end0
    exact⟨rfl,F,ai,UF⟩
  | cons x r =>
    obtain⟨⟨v,hv⟩,aj⟩:=q.link;have f:=q.rng x AZ;have l:=t.ok
    have ac:d.length+r.length+1=ps.length:=by rw[j];simp;omega
    have T:=Ac (λW (h:PT W F p (Bl S d) i (c+2*d.length) (k+4*d.length)) (B:TM W F A p root)=>kG (n:=x) h B (by have:=u.out;omega) (by have:=u.out;omega) f.2.1 (l.pg x f.2.1));rw[hv]at T;have FR:=Ac (λW X (h:PT W X p (Bl S d) i (c+2*d.length) (k+4*d.length+1))=>WB (x:=x) h (by have:=u.out;omega) (by have:=u.out;omega) f.1 f.2.1 f.2.2);have o:(((x :: r).headD 0:Nat):Int)=(x:Int):=rfl;rw[o]
    have n0:((x:Int) != 0)=true:=by rw[OE];have:=f.1;omega
    have Q1:=Ac j;have Q4:=Ac q;have Q5:=Ac t;have Q6:=Ac G;have Q7:=Ac R;have Q2:=Ac Q;obtain⟨L,U⟩:∃ L,r.headD 0=L:=⟨_,rfl⟩;have HL:=Ac U;rw[U]at T;clear j Q q t G R hv aj f l ac o U N O P
    go_wp2_with (first
     |(go_at_call 138;refine(T _ Q5 Q7).mono ?_;rintro en w2 ⟨A2,c2,X2,rfl,I,J,ak,al⟩;have P2:=Ac (I.below (Ag _ (.cells #[.int .i64 x,.int .i64 5,.int .i64 L,.slice A2 1 c2] 116)));have V:=Ac ((Q7.turn J).below (Ag _ (.cells #[.int .i64 x,.int .i64 5,.int .i64 L,.slice A2 1 c2] 116)));have U2:=Ac ((Q6.trans J).next (Ag _ (.cells #[.int .i64 x,.int .i64 5,.int .i64 L,.slice A2 1 c2] 116)));have Y2:=Ac (Has.new w2 116 #[.int .i64 x,.int .i64 5,.int .i64 L,.slice A2 1 c2]);have YN:=Ac (show some w2.heap.size∉X2 from λhm=>by have:=I.lt _ hm;omega);have t1:=V.has.cells2.1;have tz:=V.has.lt;clear I J ak al)
     |(go_at_call 80;refine(FR _ _ P2).mono ?_;rintro en w3 ⟨rfl,X3,ad,z⟩;have P3:=Ac ad;have M3:=Ac (V.turn z);have U3:=Ac (U2.trans z);have Y3:=Ac (z.has Y2 YN);obtain⟨y0,y1,y2,y3⟩:=Y3.cells4;have yz:=Y3.lt;clear ad z t1 tz)
     |(go_at_call 129;refine(Gp _).mono ?_;rintro e w1 ⟨rfl,rfl⟩))
    go_roundg r.length
    case rel =>
     have e2:Bl S (d++[x])=(Bl S d).free x:=by unfold Bl;rw[dF];rfl
     refine⟨d++[x],r,X3,by rw[Q1.out];simp,rfl,by rw[HL.out],by rw[e2];exact Q4.free, ?_,U3,M3⟩;rw[e2,A8];exact P3.more (by simp;omega) (by simp;omega)
    case measure=>have:=Q2.out;simp at this;omega
def Sz {w:World} {tv:Value} {key v:Ky} (d:key.length<=200) (j:v.length<=3000) :
 Calls Tryz.prog 52 #[tv,.string (Af ⟨key,Nb v⟩)] w λe w'=>e = .returned (.tuple #[])/\w=w':=by
 have a:=Ac (λW=>Ui ⟨key,Nb v⟩ d (by simp[Nb];omega) W);have g:AQ (⟨key,Nb v⟩:It).r=AQ (0 :: v):=rfl;rw[g]at a
 have h:(AQ (0 :: v)).size=v.length+1:=by rw[Bf];simp
 have k:=V8 (s:=AQ (0 :: v)) (by omega);have b0:∀ b:0<(AQ (0 :: v)).size,((AQ (0 :: v))[0]'b).toNat=0:=λb=>rfl;obtain⟨s,c⟩:∃ s,AQ (0 :: v)=s:=⟨_,rfl⟩;rw[c]at a h k
 have b1:∀ b:0<s.size,(s[0]'b).toNat=0:=by subst c;exact b0
 obtain⟨l,f⟩:∃ s,Af ⟨key,Nb v⟩=s:=⟨_,rfl⟩;rw[f]at a ⊢
 have i:0<s.size:=by omega
 have b2:=b1 i
 have m:((s[0].toNat:Int) == 0)=true:=by rw[b2];rfl
 have n:(0:Int)<(s.size:Int):=by omega
 clear g h c b0 b1 b2 f d j;go_enter Tryz.func52,Tryz.ntmps52
 go_wp2_with (first |(go_at_call 136;refine(a _).mono ?_;rintro e w1 ⟨rfl,rfl⟩))
 refine IQ (bP rfl _ _ _) rfl ?_;exact⟨rfl,rfl⟩
end Go.Proofs.YtjihboddejaelaaGreat
