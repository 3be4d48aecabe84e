/-
  Package tree: settle.
-/
import Derived.Test.YtjihboddejaelaaGreatTm1
import Derived.Test.YtjihboddejaelaaGreatTm17
import Derived.Deep.LoopGhost
import Derived.StillTailTactics
import Derived.Tactics2
import Derived.Defers
import Derived.Recover
import Derived.Laws.Pointers
import Derived.Deep.QuietTactic
import Derived.BigQuiet
import Derived.Test.YtjihboddejaelaaGreatTm16
set_option linter.unusedVariables false
set_option linter.unusedSimpArgs false
set_option linter.defProp false
set_option maxRecDepth 100000
set_option maxHeartbeats 100000000
namespace Go.Proofs.YtjihboddejaelaaGreat
open Go.RowKit Go.BigFrame
attribute [local go_sem] Ea Bz Bq Act.put
def jM{α:Type}{ss l:List α}{s:α}{n:Nat}(h:ss.take (n+1)=l++[s])(b:l.length=n):ss[n]? = some s/\ss.take n=l:=by
 constructor
 ·have a:(ss.take (n+1))[n]? = some s:=by rw [h,GU (by omega),b,I9];rfl
  rw[GZ,AC (by omega)]at a;exact a
 ·have a:(ss.take (n+1)).take n=l:=by rw [h,<- b,PV]
  rw[MF,MC (by omega)]at a;exact a
def Ud(b:Bool)(B:List Nd)(x:Nd):(BM b B x).2.2=(body b x.its).map Af:=by cases b <;> rfl
def tH(w0:World)(X0:List (Option Nat))(p e root c k D N pb cap:Nat)(S f:St)(d:List Nat)(L:List It)(g:Nat)(h:Value)(wr:World):Prop :=
 ∃ (a:St) (Ds:List (List Nd)) (A:List Nd) (x:Nd) (B:List Nd) (ups:List CY) (ss:List Stp) (j:List Ad) (b:List (Option Nat)) (i n:Nat),ups.length=n/\g=n+1/\h = .int .i64 n/\Pnd a.G root Ds A x B ups/\Jd (A++x :: B) Ds=L/\Mv S a d (Fe (A++x :: B) Ds ups) /\
   PT wr b p a f (c+6*Ds.length) (k+10*Ds.length)/\TM wr b e p root/\Turn X0 b w0 wr/\Nq wr b w0.heap.size (.slice (some ⟨pb,0,none⟩) N cap) ss j/\ss.take (n+1)=Ig ups++[⟨x.n,BM Ds.isEmpty B x,i⟩]/\Ds.length+n=D/\a.q<=S.q+Ds.length/\ss.length=N
def Zj {w0 w:World} {X0 X:List (Option Nat)} {M p root c k D N pb cap i:Nat} {S S0:St} {A B:List Nd} {x:Nd} {ups:List CY} {ss:List Stp} {rs:List Ad} (h:PT w X p S S0 c k) (ht:TM w X M p root) (hc:c+300<=60000) (hk:k<=700000000) (Z:S.q<=58000) (hD:D<=20)
 (pd:Pnd S.G root [] A x B ups) (hn:(Fe (A++x :: B) [] ups++S.fr).Nodup) (hr:∀ q∈Fe (A++x :: B) [] ups++S.fr,0<q/\q<S.q) (tu:Turn X0 X w0 w) (pa:Nq w X w0.heap.size (.slice (some ⟨pb,0,none⟩) N cap) ss rs) (dr:ss.take (ups.length+1)=Ig ups++[⟨x.n,TR B x,i⟩]) (ce:ups.length=D) (ds:ss.length=N) (hN:N=D+1) (dt:M<w0.heap.size) :
 Calls Tryz.prog 54 #[.pointer (some ⟨M,0,none⟩),.slice (some ⟨pb,0,none⟩) N cap] w (aP X0 w0 p S S0 root (c+6*D+7) (k+10*D+11) (D+2) (Fe (A++x :: B) [] ups) (Jd (A++x :: B) [])):=by
 have cc:=Ac (show ∀ v4:Value,v4 = .int .i64 (D:Nat)->tH w0 X0 p M root c k D N pb cap S S0 (Fe (A++x :: B) [] ups) (Jd (A++x :: B) []) (D+1) v4 w from λv4 h4 =>
  ⟨S,[],A,x,B,ups,ss,rs,X,i,D,ce,rfl,h4,pd,rfl,Mv.refl _ _,h,ht,tu,pa,by rw[<- ce];exact dr,by simp,AY _,ds⟩)
 obtain⟨cf,bx⟩:∃ l,Fe (A++x :: B) [] ups=l:=⟨_,rfl⟩;obtain⟨L,hL⟩:∃ l,Jd (A++x :: B) []=l:=⟨_,rfl⟩;obtain⟨n0,du⟩:∃ n,D+1=n:=⟨_,rfl⟩;rw[bx,hL,du]at cc;rw[bx]at hn hr;rw[bx,hL];have HN:=Ac (AV hn hr);have E:=Ac (AV hc (AV hk (AV Z (AV hD (AV dt h.ok.pos)))));have hj:D<=20:=hD;have a0:=Ac hN
 have ho:1<=N:=by omega
 have hp:N<=21:=by omega
 clear h ht hc hk Z pd hn hr tu pa dr ce ds dt bx hL du hD hN;go_enter Tryz.func54,Tryz.ntmps54
 go_wp2_with fail
 go_loopg [4] n0 (λg v4 wr=>tH w0 X0 p M root c k D N pb cap S S0 cf L g v4 wr)
 case atStart=>exact cc _ (by have:=a0.out;congr 1;omega)
 case round =>
  obtain⟨Sr,Ds,A,x,B,ups,ss,rs,X',i,n,qn,q1,q2,q3,q4,q5,q6,q7,q8,q9,ba,a1,bz,co⟩:=hrel;clear cc;have cq:=q6.ok;obtain⟨ct,cu⟩:=q5.nd HN.1 HN.2;have fo:0<S.q:=E.2.2.2.2.2
  have own:∀ q∈Fe (A++x :: B) Ds ups,0<q/\q<Sr.q/\q∉Sr.fr:=λq Z=>by
   have r9:=cu fo q (BL _ Z);exact⟨r9.1,r9.2,λhf=>(CZ.1 ct).2.2 q Z q hf rfl⟩
  cases ups with
  | nil =>
    obtain rfl:0=n:=qn;obtain⟨s1,s2⟩:=jM ba rfl;obtain⟨aq,ap,fw,a,d,ha,ar,af,st⟩:=q9.step s1
    have H:pb=aq/\cap=ap:=by
     injection d with d e4 e3
     injection d with d
     injection d with d
     exact⟨d,e3⟩
    obtain⟨rfl,rfl⟩:=H;obtain rfl:=q2;have SR:=Ac (λW (h:PT W X' p Sr S0 (c+6*Ds.length) (k+10*Ds.length)) (ht:TM W X' M p root) (hs:SS W a.1 (BM Ds.isEmpty B x).2.2.length (BM Ds.isEmpty B x).2.2)=>IE0 h ht (by have:=E.out;simp at a1;omega) (by have:=E.out;simp at a1;omega) (by have:=E.out;simp at a1;omega) q3 own hs (WA st.row).2.1 (WA st.row).2.2);obtain⟨pg,aa⟩:∃ pg,BM Ds.isEmpty B x=pg:=⟨_,rfl⟩;rw[aa]at SR st;obtain⟨g0,g1,g2,g3,g4⟩:=st.at5;simp only[Nat.mul_zero,FM]at g0 g1 g2 g3 g4;have gz:=st.hb.lt
    have n1:(0:Int)<(N:Int):=by have:=a0.out;omega
    have n2:pg.2.2.length<=1000:=by
     have h5:=Ih (body Ds.isEmpty x.its);have h6:=q3.le;rw[<- aa,Ud,BZ];omega
    have n3:Ce pg.2.2<=8388608:=by
     have h6:=q3.le;rw[<- aa,Ud,Ew];omega
    have US:=Ac (λW (h:SS W a.1 pg.2.2.length pg.2.2)=>Jm a.1 pg.2.2.length a.2 pg.2.2 W h (by omega) n3);have ST:=Ac st;have Q5:=Ac q5;have Q6:=Ac q6;have Q7:=Ac q7;have Q8:=Ac q8;have Q4:=Ac q4;have B0:=Ac (Ag wr (.cells #[.int .i64 x.n,.int .i64 pg.1,.int .i64 pg.2.1,.slice a.1 pg.2.2.length a.2] 116));have C:=Ac (show Ds.length<=D from by simp at a1;omega);have QL:=Ac bz;clear q1 q3 q4 q5 q6 q7 q8 q9 ba a1 bz co cq ct cu own s1 s2 ha d ar af st aa n2 n3
    go_wp2_with (first
     |(go_at_call 141;refine(US _ (ST.ss.keep B0)).mono ?_;rintro e w1 ⟨rfl,rfl⟩)
     |(go_at_call 142;(with_reducible refine(SR.out _ (Q6.out.below B0.out) (Q7.out.below B0.out) (ST.out.ss.keep B0.out)).mono ?_);rintro en P ⟨rfl,S2,x2,bb,X2,ai,aj,dv,l2,bc,fx⟩;have ab:=Ac (show aP X0 w0 p S S0 root (c+6*D+7) (k+10*D+11) (D+2) cf L (.returned (.tuple #[])) P from⟨rfl,S2,x2,bb,X2,ai.more (by have:=C.out;omega) (by have:=C.out;omega),(Q8.next B0).trans aj,dv,l2.trans Q4,Q5.trans bc,by have:=C.out;have:=QL.out;omega⟩);clear ai aj dv l2 bc fx))
    refine IQ (bP rfl _ _ _) rfl ?_;exact ab
  | cons u r =>
    obtain⟨m,rfl⟩:∃ m,n=m+1:=⟨r.length,by rw[<- qn];rfl⟩
    have cv:r.length=m:=by simpa using qn
    obtain⟨s1,s2⟩:=jM ba (by rw[Ci];exact qn);rw[yE]at s2;obtain⟨t1,t2⟩:=jM s2 (by rw[Ci];exact cv)
    obtain rfl:u4 = .int .i64 ((m:Int)+1):=by rw[q2];rfl
    obtain⟨aq,ap,fw,a,d,ha,ar,af,st⟩:=q9.step s1
    have H:pb=aq/\cap=ap:=by
     injection d with d e4 e3
     injection d with d
     injection d with d
     exact⟨d,e3⟩
    obtain⟨rfl,rfl⟩:=H
    have fy:m+1<=D:=by omega
    rw[JA 5 (m+1)]at st;obtain⟨pg,aa⟩:∃ pg,BM Ds.isEmpty B x=pg:=⟨_,rfl⟩;rw[aa]at st
    have n2:pg.2.2.length<=1000:=by
     have h5:=Ih (body Ds.isEmpty x.its);have h6:=q3.le;rw[<- aa,Ud,BZ];omega
    have n3:Ce pg.2.2<=8388608:=by
     have h6:=q3.le;rw[<- aa,Ud,Ew];omega
    have US:=Ac (λW (h:SS W a.1 pg.2.2.length pg.2.2)=>Jm a.1 pg.2.2.length a.2 pg.2.2 W h (by omega) n3);obtain⟨g0,g1,g2,g3,g4⟩:=st.at5;have gz:=st.hb.lt
    have i1:(m:Int)+1<(N:Int):=by have:=a0.out;omega
    have ST:=Ac st;have Q3:=Ac q3;have Q4:=Ac q4;have Q5:=Ac q5;have Q6:=Ac q6;have Q7:=Ac q7;have Q8:=Ac q8;have Q9:=Ac q9;have bd:=Ac bz;have cw:=Ac co;have ag:=Ac own;have T1:=Ac t1;have T2:=Ac t2;have be:=Ac aa;have a2:=Ac cv;have C:=Ac (show Ds.length+m+1=D from by omega);have Q1:=Ac q1;have PL:=Ac (qG cq q3 own);have ac:=Ac (show Ce pg.2.2=Ak (body Ds.isEmpty x.its)from by rw[<- aa,Ud,Ew]);have dw:=Ac n2;clear qn cv q1 q3 q4 q5 q6 q7 q8 q9 ba a1 bz co cq ct cu own s1 s2 t1 t2 ha d ar af st aa n2 n3
    have he:m<=20:=by omega
    clear fy
    go_wp2_with fail
    have Z1:=Ac (Has.new wr 116 #[.int .i64 x.n,.int .i64 pg.1,.int .i64 pg.2.1,.slice a.1 pg.2.2.length a.2]);have B0:=Ag wr (.cells #[.int .i64 x.n,.int .i64 pg.1,.int .i64 pg.2.1,.slice a.1 pg.2.2.length a.2] 116);have P1:=Ac (Q6.below B0);have M1:=Ac (Q7.below B0);have U1:=Ac (Q8.next B0);have a3:=Ac (Q9.below B0);have ah:=Ac (ST.below B0);have ZX:=Ac (show some wr.heap.size∉X' from λJ=>by have:=Q6.lt _ J;omega);have ZW:=Ac (show w0.heap.size<=wr.heap.size from Q8.size);have hw:=Ac (show ∀ g,some g∈X'->g<wr.heap.size from Q6.lt);have dx:=Ac (show pb<wr.heap.size/\∀ b∈rs,∀ g,EO b=some g->g<wr.heap.size from⟨(Q9.own.lt pb rfl).2,λb hb g o=>(Q9.rows.lt b hb g o).2⟩)
    clear Q6 Q7 Q8 Q9 ST B0 g0 g1 g2 g3 g4 gz;generalize wr.alloc (.cells #[.int .i64 x.n,.int .i64 pg.1,.int .i64 pg.2.1,.slice a.1 pg.2.2.length a.2] 116)=W1 at *;generalize fz:wr.heap.size=b5 at *;clear fz;obtain⟨us,ak⟩:∃ us,Ce pg.2.2=us:=⟨_,rfl⟩;rw[ak]at US ac;refine(US _ ah.ss).mono ?_;rintro en w1 ⟨rfl,rfl⟩;clear US ak
    have e0:(((m:Int)+1) == 0)=false:=by rw[FK];omega
    obtain⟨z0,z1,z2,z3⟩:=Z1.cells4;have zl:=Z1.lt;by_cases h1:1012<us
    ·have u1:(1012:Int)<(us:Int):=by omega
     obtain⟨X1,y,Y,kd,l,l2,cl,cr,eX,eY,dy,cx,cy,dz,d0,d1,d2,hl,d3⟩:=RX0 P1.ok Q3 ag (by have:=ac.out;omega);have dj:pg=(kd,l,(body Ds.isEmpty x.its).map Af):=be.symm.trans dy;obtain⟨cs,d4⟩:∃ cs,(body Ds.isEmpty x.its).map Af=cs:=⟨_,rfl⟩;rw[d4]at cy dj;subst dj;dsimp only at ah dw ac Z1 z0 z1 z2 z3 ⊢;have cg:=WA ah.row;have SP:=Ac (λW (h:SS W a.1 cs.length cs)=>cy (.pointer (some ⟨M,0,none⟩)) W a.1 a.2 h cg.2.1 cg.2.2);have av:=Ac (AV eX (AV eY dz));have bf:=Ac (AV d0 (AV d1 (AV d2 (AV hl d3))));have f0:=Ac (show 1012<Ak (body Ds.isEmpty x.its)from by have:=ac.out;omega);have AL:=Ac (P1.ok.Aj);have a9:=λq Z=>P1.ok.other (ag q Z).2.1 (ag q Z).2.2;have d5:=Ac a9
     have XN:=Ac (AV (ag x.n (BL _ (Cm (by simp) Ds))) (a9 x.n (BL _ (Cm (by simp) Ds))));have d6:=Ac (St.Qd P1.ok (by have:=E.out;have:=bd.out;have:=C.out;omega));have f1:=Ac (Q3.congr (G':=Sr.alloc.G) (λq Z=>P1.ok.SG (by have:=(ag q Z).1;omega) (a9 q Z).1));obtain⟨K,hK⟩:∃ K,AQ y.k=K:=⟨_,rfl⟩;rw[hK]at SP;have HK:=Ac hK;have f2:=Ac P1.ok;obtain⟨f,cz⟩:∃ n,Sr.Aj=n:=⟨_,rfl⟩;rw[cz]at AL d5 XN a9;have d7:=Ac cz;clear eX eY dy cy dz d0 d1 d2 hl d3 d4 cg a9 hK cz ac
     obtain⟨lf,LL,bg⟩:∃(lf:Bool) (LL:Nat),(kd=1/\lf=true/\LL=f)\/(kd=2/\lf=false/\LL=l):=by
      rcases cx with e | e
      ·exact⟨true,f,.inl ⟨e,rfl,rfl⟩⟩
      ·exact⟨false,l,.inr ⟨e,rfl,rfl⟩⟩
     have f3:=Ac bg;have b0:=Ac cx
     have f4:=Ac (show BM Ds.isEmpty (⟨f,y.k,y :: Y⟩ :: B) ⟨x.n,x.lo,X1⟩=(kd,LL,cl)from by
      rcases bg with⟨e,_,H⟩ |⟨e,_,H⟩
      ·exact((av.2.2 f).1 e).trans (by rw[e,H])
      ·exact((av.2.2 f).2.1 e).trans (by rw[e,H]))
     have f5:=Ac (λm=>(av.2.2 m).2.2);have f6:=Ac (show LL=f\/LL=l from by rcases bg with⟨_,_,e⟩ |⟨_,_,e⟩ <;> omega)
     have d8:=Ac (λv W=>show Calls Tryz.prog 130 #[.agg #[.int .i64 x.n,.int .i64 kd,.int .i64 l,v]] W (λe w'=>e = .returned (.bool lf)/\Below W.heap.size W w')from by
      rcases bg with⟨e,d,_⟩ |⟨e,d,_⟩
      ·rw[e,d];exact Pz x.n l v W
      ·rw[e,d];exact Qr x.n l v W)
     clear bg cx
     go_wp2_with fail
     refine(SP _ ah.ss).mono ?_;rintro en P ⟨va,vb,rfl,al,am,b1,hb2⟩;obtain⟨Aa,ca,rfl,f7⟩:=Bg al;obtain⟨Ab,cb,rfl,f8⟩:=Bg am;have d9:=Ac al;have ea:=Ac am;have eb:=Ac b1;have ec:=Ac hb2;clear al am b1 hb2
     go_wp2_with fail
     have al:=d9.out;have am:=ea.out;have b1:=eb.out;have hb2:=ec.out;clear d9 ea eb ec;have f9:=hb2.size;have HX:=Z1.lt;have ed:=Has.new P 116 #[.int .i64 x.n,.int .i64 kd,.int .i64 l,.slice Aa cl.length ca];have c4:=Has.new (P.alloc (.cells #[.int .i64 x.n,.int .i64 kd,.int .i64 l,.slice Aa cl.length ca] 116)) 116 #[.int .i64 x.n,.int .i64 kd,.int .i64 l2,.slice Ab cr.length cb];rw[ED]at c4;have bq:=((AU P.heap.size P).alloc (AY _) (.cells #[.int .i64 x.n,.int .i64 kd,.int .i64 l,.slice Aa cl.length ca] 116)).alloc (by simp) (.cells #[.int .i64 x.n,.int .i64 kd,.int .i64 l2,.slice Ab cr.length cb] 116)
     have bh:=P1.lt;have P3:=Ac ((P1.below hb2).below bq);have M3:=Ac ((M1.below hb2).below bq);have U3:=Ac ((U1.next hb2).next bq);have bi:=Ac ((a3.below hb2).below bq);have ee:=Ac (Nw.mk2 (bs:=cl) (X:=X') (z:=0) (BR _) (λJ=>by have:=bh _ J;omega) (ed.alloc (.cells #[.int .i64 x.n,.int .i64 kd,.int .i64 l2,.slice Ab cr.length cb] 116)) ((al.alloc _).alloc _) (BR _) bh (λg o=>by have:=(al.lt g o).2;omega));have ef:=Ac (Nw.mk2 (bs:=cr) (X:=X') (z:=0) (b:=P.heap.size+1) (BR _) (λJ=>by have:=bh _ J;omega) c4 ((am.alloc _).alloc _) (BR _) bh (λg o=>by have:=(am.lt g o).2;omega))
     have c5:=Ac (show(∀ g,(Value.slice Aa cl.length ca).ownBlock=some g->g≠P.heap.size+1)/\(∀ g,(Value.slice Ab cr.length cb).ownBlock=some g->g≠P.heap.size)from⟨λg o=>by have:=(al.lt g o).2;omega,λg o=>by have:=(am.lt g o).2;omega⟩)
     have D7:b5<P.heap.size:=by omega
     clear ed c4 bq al am b1 hb2 f9 f7 f8 bh P1 M1 U1 a3 ah Z1 z0 z1 z2 z3 zl SP HX;generalize (P.alloc (.cells #[.int .i64 x.n,.int .i64 kd,.int .i64 l,.slice Aa cl.length ca] 116)).alloc (.cells #[.int .i64 x.n,.int .i64 kd,.int .i64 l2,.slice Ab cr.length cb] 116)=W3 at *;generalize ga:P.heap.size=O at *;clear ga;have bj:=Ac (show(∀ g,b5<g->(Value.slice (some ⟨pb,0,none⟩) N cap).ownBlock≠some g/\∀ b∈rs,EO b≠some g)from λg o=>⟨λe=>by have H:pb=g:=CV e;have:=dx.1;omega,λb hb e=>by have:=dx.2 b hb g e;omega⟩);have eg:=Ac (show M<b5 from by have:=E.out;have:=ZW.out;omega);have eh:=Ac (show ∀ g,b5<g->w0.heap.size<=g from λg o=>by have:=ZW.out;omega)
     refine(kT P3 M3 (by have:=E.out;have:=C.out;omega) (by have:=E.out;have:=C.out;omega) (by have:=E.out;have:=bd.out;have:=C.out;omega)).mono ?_;rintro en w4 ⟨rfl,X4,ei,a4⟩;rw[d7.out];have P4:=Ac ei;have M4:=Ac (M3.turn a4);have U4:=Ac (U3.trans a4);have ej:=Ac (bi.turn a4);have b2:=Ac (ee.turn a4);have a5:=Ac (ef.turn a4);clear ei a4 P3 M3 U3 bi ee ef;obtain⟨x0,x1,x2,x3⟩:=b2.hz.cells4;obtain⟨y0,y1,y2,y3⟩:=a5.hz.cells4;have yf:=a5.hz.frozen;have yz:=a5.hz.lt;have xz:=b2.hz.lt
     go_wp2_with fail
     have P5:=Ac (P4.set a5.nx 0 (.int .i64 f));have M5:=Ac (M4.set (by have:=eg.out;omega) 0 (.int .i64 f) (g:=O+1));have U5:=Ac (U4.Dz (eh (O+1) (by omega)) 0 (.int .i64 f));have ek:=Ac (ej.UC (bj (O+1) (by omega)).1 (bj (O+1) (by omega)).2 0 (.int .i64 f));have el:=Ac (b2.far (g:=O+1) (by omega) c5.1 0 (.int .i64 f));have em:=Ac (a5.num f);clear x0 x1 x2 x3 y0 y1 y2 y3 yf yz xz P4 M4 U4 ej b2 a5;generalize w4.setCell ⟨O+1,0,none⟩ (.int .i64 f)=W5 at *;refine(d8 (.slice Aa cl.length ca) W5).mono ?_
     rintro en w6 ⟨rfl,aw⟩;have P6:=Ac (P5.below aw);have M6:=Ac (M5.below aw);have U6:=Ac (U5.next aw);have c6:=Ac (ek.below aw);have ax:=Ac (el.below aw);have bk:=Ac (em.below aw);clear aw P5 M5 U5 ek el em;clear d8
     go_upto_if 50 with fail
     go_cut [50] (λ_ wx=>PT wx X4 p Sr.alloc S0 (c+6*Ds.length+2) (k+10*Ds.length+4)/\TM wx X4 M p root/\Turn X0 X4 w0 wx/\Nq wx X4 w0.heap.size (.slice (some ⟨pb,0,none⟩) N cap) ss rs/\Nw wx X4 0 O x.n kd LL cl.length ca Aa cl/\Nw wx X4 0 (O+1) f kd l2 cr.length cb Ab cr)
     case first =>
      obtain⟨x0,x1,x2,x3⟩:=ax.hz.cells4;have y0:=bk.hz.cell 0;have xf:=ax.hz.frozen;have xz:=ax.hz.lt;have yz:=bk.hz.lt
      rcases f3 with⟨d,H,e3⟩ |⟨d,H,e3⟩
      ·rw [H];have E3:=Ac e3;clear d H e3
       go_wp2_with fail
       go_meet;rw[E3.out];exact⟨P6.set ax.nx 2 (.int .i64 f),M6.set (by have:=eg.out;omega) 2 (.int .i64 f) (g:=O),U6.Dz (eh O (by omega)) 2 (.int .i64 f),c6.UC (bj O (by omega)).1 (bj O (by omega)).2 2 (.int .i64 f),ax.link f,bk.far (g:=O) (by omega) c5.2 2 (.int .i64 f)⟩
      ·rw [H];have E3:=Ac e3;clear d H e3
       go_wp2_with fail
       go_meet;rw[E3.out];exact⟨P6,M6,U6,c6,ax,bk⟩
     case rest =>
     obtain⟨p7,m7,u7,a7,l7,r7⟩:=hcut;have P7:=Ac p7;have M7:=Ac m7;have U7:=Ac u7;have eo:=Ac a7;have b3:=Ac l7;have ep:=Ac r7;clear P6 M6 U6 c6 ax bk p7 m7 u7 a7 l7 r7;obtain⟨x0,x1,x2,x3⟩:=b3.hz.cells4;have xz:=b3.hz.lt
     go_wp2_with fail
     clear x0 x1 x2 x3 xz
     have c7:Xu (kd,LL,cl):=⟨by have:=b0.out;show 1<=kd;omega,by have:=b0.out;show kd<=5;omega,by have:=AL.out;have:=d6.few;have:=bf.out;have:=f6.out;show LL<=_;omega,bf.1⟩
     have c8:Xu (kd,l2,cr):=⟨by have:=b0.out;show 1<=kd;omega,by have:=b0.out;show kd<=5;omega,bf.2.2.2.2,bf.2.1⟩
     have eq:=Ac (λW X c1 k1 (gb:c1<=60000) (gd:k1<=900000000) (h:PT W X p (Sr.alloc.set x.n (kd,LL,cl)) S0 c1 k1) (ht:TM W X M p root) (hs:SS W Ab cr.length cr)=>Hy (n:=f) (cp:=cb) (pg:=(kd,l2,cr)) h ht gb gd AL.1 AL.2.1 AL.2.2.1 c8 hs (by have h9:cr.length<=253:=Yq c8;omega));refine(Hy (n:=x.n) (cp:=ca) (pg:=(kd,LL,cl)) P7 M7 (by have:=E.out;have:=C.out;omega) (by have:=E.out;have:=C.out;omega) XN.1.1 XN.2.2.1 XN.2.2.2 c7 b3.ss (by have h9:cl.length<=253:=Yq c7;omega)).mono ?_
     rintro en w8 ⟨rfl,X8,er,bl⟩;have P8:=Ac er;have M8:=Ac (M7.turn bl);have U8:=Ac (U7.trans bl);have es:=Ac (eo.turn bl);have b4:=Ac (ep.turn bl);clear er bl P7 M7 U7 eo b3 ep c7 c8 c5;obtain⟨y0,y1,y2,y3⟩:=b4.hz.cells4
     go_wp2_with fail
     refine(eq _ _ _ _ (by have:=E.out;have:=C.out;omega) (by have:=E.out;have:=C.out;omega) P8 M8 b4.ss).mono ?_;rintro en w9 ⟨rfl,X9,et,bm⟩;have P9:=Ac et;have M9:=Ac (M8.turn bm);have U9:=Ac (U8.trans bm);have c9:=Ac (es.turn bm);have da:=Ac (b4.turn bm);clear et bm P8 M8 U8 es b4 eq y0 y1 y2 y3;obtain⟨aq,ap,a6,s,d,bn,ar,af,su⟩:=c9.step T1
     have H:pb=aq/\cap=ap:=by
      injection d with d e4 e3
      injection d with d
      injection d with d
      exact⟨d,e3⟩
     obtain⟨rfl,rfl⟩:=H;have SU:=Ac su;have ay:=su;rw[JA 5 m]at ay;obtain⟨I,bo⟩:∃ l,(u.y.its.drop 1).map Af=l:=⟨_,rfl⟩;obtain⟨ul,db⟩:∃ l,Gi (u.y.its.headD ⟨[],[]⟩).r=l:=⟨_,rfl⟩;obtain⟨ui,b6⟩:∃ l,u.U.length=l:=⟨_,rfl⟩;have bp:Nc w9 X9 pb (m*5) u.y.n 2 (Gi (u.y.its.headD ⟨[],[]⟩).r) u.U.length ((u.y.its.drop 1).map Af).length s.2 s.1 a6 ((u.y.its.drop 1).map Af):=ay;rw[bo,db,b6]at bp;have dc:=Ac bp
     have ch:I.length<=300/\ui<=I.length/\u.y.its=u.U++[Dx x]++u.V:=by
      have hits:=Q3.abv.1.its
      have h1:Ak (u.y.its.drop 1)<=1012:=(Q3.abv.1.fit u.y (BC _ AZ) (λe=>by
       have eu:=Q3.nd;unfold Fe at eu
       exact(CZ.1 eu).2.2 x.n (Cm (by simp) Ds) u.y.n (BL _ (F6 (BC _ AZ))) e.symm)).le
      have h2:=Ih (u.y.its.drop 1);refine⟨by rw[<- bo,BZ];omega, ?_,by rw[hits];rfl⟩;rw[<- bo,<- b6,BZ,DJ,hits];simp
     have ae:=Ac (AV bo (AV db (AV b6 ch)));have br:=Ac bn;have fp:=Ac af;have hh:I.length<=300:=ch.1;obtain⟨p0,p1,p2,p3,p4⟩:=bp.at5;have pz:=bp.hb.lt;have e9:=da.hz.cell 0;have ez:=da.hz.lt;have FO:=Ac (λW=>Uf f (by have:=AL.out;have:=d6.few;omega) W);have CE:=Ac (λW=>Rq ⟨y.k,Ba f⟩ bf.2.2.1 (by simp[Ba]) W);obtain⟨F,hF⟩:∃ v,AQ (Ba f)=v:=⟨_,rfl⟩;obtain⟨CB,dd⟩:∃ v,Af ⟨y.k,Ba f⟩=v:=⟨_,rfl⟩;have ev:AQ (⟨y.k,Ba f⟩:It).r=F:=hF;have ew:AQ (⟨y.k,Ba f⟩:It).k=K:=HK.out;rw[hF]at FO;rw[ew,ev,dd]at CE;have ge:=Ac dd;have hx:=Ac (show pb≠O+1 from λe=>(bj (O+1) (by omega)).1 (by rw[e];rfl));clear su ay d bn ar af bp ch bo db b6 hF dd ev ew
     have i2:(m:Int)<(N:Int):=by omega
     go_wp2_with fail
     refine Tf 16 (.pointer (some ⟨pb,m*5,none⟩)) (CQ (w9)) (gJ pb (m*5) ui (O+1) f I.length s.2 w9.heap.size s.1 K F CB) (by kernel_rfl) (by kernel_rfl) (by kernel_rfl) (by kernel_rfl) (by kernel_rfl) (by kernel_rfl) (λ_ _ Q hb=>CQ.step Q hb) ?hst (CQ.start _) (λ_ _ _ h=>h) ?hy ?hp0 ?hops ?hend
     case hy=>exact Or.inl ⟨by rfl,λw=>by(go_simp;first | done |(with_reducible rfl))⟩
     case hp0=>exact λ_=>rfl
     case hst=>exact SP0 _ _ _ _ _ _ _ _ _ _ _ _
     case hops =>
      intro us wx ak Q;obtain⟨u0,u1,u2,u3,u4,u5,u6,u7,u8,u9,gf,gg,gh,gi,gj,gk,gl,rfl⟩:=sZ us ak;clear ak;simp only[Bq,Act.put,DY,DZ,EP,EF,EH];refine⟨λh=>?_,λh=>?_,λh=>?_,λh=>?_,λh=>?_,λh=>?_,λh=>?_,λh=>?_,λh=>?_,λh=>?_,λh=>?_,λh=>?_,λh=>?_,λh=>?_,λh=>?_,λh=>?_,λh=>?_,trivial⟩
      ·(clear h;refine Ae rfl ?_;go_simp;exact⟨AU _ _,rfl⟩)
      ·(clear h;refine Ae rfl ?_;go_simp;exact⟨AU _ _,rfl⟩)
      ·obtain rfl:=h 1 rfl
       (clear h;refine Ae rfl ?_;go_simp;exact⟨AU _ _,rfl⟩)
      ·obtain rfl:=h 2 rfl
       (clear h;refine Ae rfl ?_;go_simp;exact⟨AU _ _,rfl⟩)
      ·obtain rfl:=h 3 rfl
       (clear h;refine Ae rfl ?_;go_simp;exact⟨AU _ _,rfl⟩)
      ·obtain rfl:=h 4 rfl
       (clear h;refine Ae rfl ?_;go_simp;exact⟨AU _ _,rfl⟩)
      ·obtain rfl:=h 5 rfl
       (clear h;refine Ae rfl ?_;obtain⟨hc,hf⟩:=Q.facts;go_simp;exact⟨AU _ _,rfl⟩)
      ·(clear h;refine Ae rfl ?_;go_simp;exact⟨AU _ _,rfl⟩)
      ·obtain rfl:=h 7 rfl
       (clear h;refine Ae rfl ?_;go_simp;exact⟨AU _ _,rfl⟩)
      ·obtain rfl:=h 8 rfl
       (clear h;refine Ae rfl ?_;go_simp;exact⟨AU _ _,rfl⟩)
      ·obtain rfl:=h 9 rfl
       (clear h;refine Ae rfl ?_;obtain⟨hc,hf⟩:=Q.facts;go_simp;exact⟨AU _ _,rfl⟩)
      ·(clear h;refine Ae rfl ?_;go_simp;exact⟨AU _ _,rfl⟩)
      ·(clear h;refine Ae rfl ?_;go_simp;exact⟨AU _ _,rfl⟩)
      ·obtain rfl:=h 12 rfl
       (clear h;refine Ae rfl ?_;obtain⟨hc,hf⟩:=Q.facts;go_simp;exact⟨AU _ _,rfl⟩)
      ·obtain rfl:=h 13 rfl
       (clear h;refine Ae rfl ?_;go_simp;refine(FO _).mono ?_;rintro e w1 ⟨rfl,hb⟩;exact⟨_,rfl,hb,rfl⟩)
      ·obtain rfl:=h 11 rfl;obtain rfl:=h 14 rfl
       (clear h;refine Ae rfl ?_;go_simp;refine(CE _).mono ?_;rintro e w1 ⟨rfl,hb⟩;exact⟨_,rfl,hb,rfl⟩)
      ·obtain rfl:=h 15 rfl
       (clear h;refine Ae rfl ?_;go_simp;exact⟨(AU _ _).alloc (AY _) _,_,rfl,Has.new _ _ _,Q.bel.size⟩)
     case hend =>
     intro us wx ak Q;obtain⟨u0,u1,u2,u3,u4,u5,u6,u7,u8,u9,gf,gg,gh,gi,gj,gk,gl,rfl⟩:=sZ us ak;clear ak;intro fq;obtain⟨h0,h1,h2,h3,h4,h5,h6,h7,h8,h9,gm,gn,go,gp,gq,gr,gs,_⟩:=fq;obtain⟨gc,rfl,ex,gt⟩:=gs;obtain rfl:=h0;obtain rfl:=h6;obtain rfl:=gm;have ey:=Ac (P9.below Q.bel);have gu:=Ac (M9.below Q.bel);have e6:=Ac (U9.next Q.bel);have ci:=Ac (c9.below Q.bel);have ad:=Ac (dc.below Q.bel);have fs:=Ac (SU.below Q.bel);have gv:=Ac (BM0 (i:=ui) ad.row ae.2.2.2.2.1 ex (λe=>by have:=(dc.row.lt gc e).2;omega) (by omega) (BR _));clear h1 h2 h3 h4 h5 h7 h8 h9 gn go gp gq gr Q ex gt p0 p1 p2 p3 p4 pz e9 ez FO CE P9 M9 U9 c9 dc SU da;simp only[Bq,Act.put,DY,DZ,IC,GV,EP,EF,EH]
     go_wp2_with (go_at_call 53;(with_reducible refine gv.out.mono ?_);rintro en az ⟨ia,rfl,cj,ck,ao⟩;obtain⟨R,T,rfl,hi⟩:=Bg cj;have ft:=Ac cj;have cm:=Ac ck;have dk:=Ac ao;have b8:=Ac (show Has az pb 122 a6 from(ck.block pb ad.hb.lt (λe=>(ad.rx pb e.symm).2 rfl)).trans ad.hb);clear cj ck ao;have pf:=b8.frozen;have pz:=b8.lt;have p3:az.cell? ⟨pb,m*5+3,none⟩=some (.slice s.1 I.length s.2):=(b8.cell _).trans ad.c3)
     have an:=cw.out;have de:w0.heap.size<=wx.heap.size:=e6.size;have cd:=ci.out;rw[<- an]at cd
     have e7:∀ g,(Value.slice R (I.length+1) T).ownBlock=some g->some g∉X9/\g≠pb:=λg o=>by
      rcases dk.out with e | e
      ·exact ad.rx g (by rw[<- e];exact o)
      ·have e5:g=wx.heap.size:=CV (o.symm.trans e);exact⟨λJ=>by have:=ey.lt g J;omega,by have:=ad.hb.lt;omega⟩
     have ao:∀ g,(Value.slice R (I.length+1) T).ownBlock=some g->(Value.slice s.1 I.length s.2).ownBlock=some g\/wx.heap.size<=g:=λg o=>by
      rcases dk with e | e
      ·exact .inl (by rw[<- e];exact o)
      ·have e5:g=wx.heap.size:=CV (o.symm.trans e);exact .inr (by omega)
     have fn:m*5+3<a6.size:=by have:=fp.out;have:=a0.out;have:=C.out;omega
     have bu:=ad.put b8 fn ft e7;have bv:=ZF (pb:=pb) (v':=.slice R (I.length+1) T) (Turn.refl X9 wx) cm ao (m*5+3) (.slice R (I.length+1) T)
     have a8:∀ g,(Value.slice s.1 I.length s.2).ownBlock=some g->w0.heap.size<=g:=λg o=>(ci.rows.lt s (F5 br) g (by
      rw[<- o];have q:=(Ii (NG u) s).symm
      have e:JF (NG u) s = .slice s.1 I.length s.2:=by rw[<- ae.1];rfl
      rw[e]at q;exact q)).1
     have gw:w0.heap.size<=pb:=(ci.own.lt pb rfl).1;have ib:=E.2.2.2.2.1;have df:TM (az.setCell ⟨pb,m*5+3,none⟩ (.slice R (I.length+1) T)) X9 M p root:=(gu.grown cm (λe=>by have:=a8 M e.symm;omega)).set (by omega) _ _;have dg:PT (az.setCell ⟨pb,m*5+3,none⟩ (.slice R (I.length+1) T)) X9 p ((Sr.alloc.set x.n (kd,LL,cl)).set f (kd,l2,cr)) S0 (c+6*(Ds.length+1)) (k+10*(Ds.length+1)):=((ey.grown cm (λg o=>(ad.rx g o).1)).set ad.nb _ _).more (by omega) (by omega)
     have dh:Turn X0 X9 w0 (az.setCell ⟨pb,m*5+3,none⟩ (.slice R (I.length+1) T)):=e6.loc bv (λg o=>by
      rcases BI.1 o with e | o
      ·exact .inr (by have:g=pb:=CV e;omega)
      ·rcases BI.1 o with e | o
       ·exact .inr (a8 g e.symm)
       ·exact .inl o) (λg o=>BF _ (BF _ o))
     obtain⟨cells',bw⟩:∃ l,I.take ui++CB :: I.drop ui=l:=⟨_,rfl⟩
     have gx:cells'.length=I.length+1:=by
      rw[<- bw,A8,CU,DF,DJ];have:=ae.2.2.2.2.1;omega
     rw[bw]at bu;rw[<- gx]at bu bv ao df dg dh ⊢
     have dl:Nc (az.setCell ⟨pb,m*5+3,none⟩ (.slice R cells'.length T)) X9 pb (5*m) u.y.n 2 (Gi (u.y.its.headD ⟨[],[]⟩).r) u.U.length cells'.length T R (a6.setIfInBounds (5*m+3) (.slice R cells'.length T)) cells':=by
      rw[ae.2.1,ae.2.2.1,JA 5 m];exact bu
     have dm:Turn (some pb :: (Value.slice s.1 ((u.y.its.drop 1).map Af).length s.2).ownBlock :: X9) (some pb :: (Value.slice R cells'.length T).ownBlock :: X9) wx (az.setCell ⟨pb,m*5+3,none⟩ (.slice R cells'.length T)):=by rw[ae.1];exact bv
     have di:∀ g,(Value.slice R cells'.length T).ownBlock=some g->(Value.slice s.1 ((u.y.its.drop 1).map Af).length s.2).ownBlock=some g\/wx.heap.size<=g:=by rw[ae.1];exact ao
     have cn:=cd.back (j:=m) (n:=u.y.n) (kd:=2) (l:=Gi (u.y.its.headD ⟨[],[]⟩).r) (i:=u.U.length) (cells:=(u.y.its.drop 1).map Af) (A:=s.1) (c:=s.2) T1 br rfl dl fs dm di de;rw[an]at cn;have sp:=f1.split (G':=_) f0 (m:=f) (λJ=>(d5 f J).1 rfl) av.1 av.2.1 rfl;rw[f4.out,f5.out f]at sp;have ab:=Ac (AV df (AV dg (AV dh (AV cn (AV sp bw)))));clear df dg dh cn sp bw bu dl bv dm ao di e7 cd a8
     go_roundg (m+1)
     case rel =>
      have eY:=av.2.1;have eX:=av.1
      have hits:x.its=X1++y :: Y:=by rw[<- eX,<- eY,DX]
      have e8:=ae.2.2.2.2.2;refine⟨(Sr.alloc.set x.n (kd,LL,cl)).set f (kd,l2,cr),(A++[(⟨x.n,x.lo,X1⟩:Nd),⟨f,y.k,y :: Y⟩]++B) :: Ds,u.A,⟨u.y.n,u.y.lo,u.U++([⟨x.lo,Ba x.n⟩,⟨y.k,Ba f⟩]:List It)++u.V⟩,u.B,r,_,_,X9,u.U.length,m,a2,rfl,rfl,ab.2.2.2.2.1.1, ?_, ?_,ab.2.1,ab.1,ab.2.2.1,ab.2.2.2.1, ?_, ?_, ?_, ?_⟩
      ·refine Eq.trans ?_ Q4;show Jd (A++[_,_]++B) Ds=_
       cases Ds with
       | nil =>
         show(A++[(⟨x.n,x.lo,X1⟩:Nd),⟨f,y.k,y :: Y⟩]++B).flatMap (λx:Nd=>x.its)=(A++x :: B).flatMap (λx:Nd=>x.its)
         have e:([(⟨x.n,x.lo,X1⟩:Nd),⟨f,y.k,y :: Y⟩]:List Nd).flatMap (λx:Nd=>x.its)=x.its:=by
          simp only[IK,List.flatMap_nil,GI];exact hits.symm
         rw[H5,H5,e,H5,IK,BU]
       | cons D t=>rfl
      ·refine Q5.trans ?_;have m1:=Mv.alloc f2 (Fe (A++x :: B) Ds (u :: r));rw[d7.out]at m1;refine((m1.trans (Mv.set (n:=x.n) (BF _ (BL _ (Cm (by simp) Ds))) _)).trans (Mv.set (n:=f) AZ _)).perm (MZ _) ?_;refine ab.2.2.2.2.1.2.trans ?_;exact VL
      ·rw [mW,mX,T1.out,T2.out];show(Ig r++[NG u]).set m _=_;rw[VK _ _ (by rw[Ci,a2.out];exact AY _),Ci,a2.out,I9]
       show Ig r++[(⟨u.y.n,(2,Gi (u.y.its.headD ⟨[],[]⟩).r,cells'),u.U.length⟩:Stp)]=Ig r++[⟨u.y.n,FX ⟨u.y.n,u.y.lo,u.U++([⟨x.lo,Ba x.n⟩,⟨y.k,Ba f⟩]:List It)++u.V⟩,u.U.length⟩]
       unfold FX
       have c1:cells'=((u.U++([⟨x.lo,Ba x.n⟩,⟨y.k,Ba f⟩]:List It)++u.V).drop 1).map Af:=by
        rw[<- ab.2.2.2.2.2,<- ae.1,<- ae.2.2.1,<- ge.out,e8];exact CF1 _
       have c2:Gi (u.y.its.headD ⟨[],[]⟩).r=Gi ((u.U++([⟨x.lo,Ba x.n⟩,⟨y.k,Ba f⟩]:List It)++u.V).headD ⟨[],[]⟩).r:=by
        rw[e8];cases u.U <;> rfl
       rw[c1,c2]
      ·have:=C.out;simp only[DF];omega
      ·have:=bd.out;have:=AL.out;simp only[DF];show Sr.alloc.q<=_;omega
      ·rw[MX];exact an
     case measure=>have:=Q1.out;omega
    ·have u1:¬ (1012:Int)<(us:Int):=by omega
     by_cases h2:us<180
     ·have u2:(us:Int)<180:=by omega
      have dn:Ak (body Ds.isEmpty x.its)<180:=by have:=ac.out;omega
      have B1:=Ac ((AU W1.heap.size W1).drew);obtain⟨aq,ap,a6,s,d,bn,ar,af,su⟩:=(a3.below B1).step T1
      have H:pb=aq/\cap=ap:=by
       injection d with d e4 e3
       injection d with d
       injection d with d
       exact⟨d,e3⟩
      obtain⟨rfl,rfl⟩:=H;have SU:=Ac su;have ay:=su;rw[JA 5 m]at ay;have fa:Es W1.drew X' pb (m*5) u.y.n (Gi (u.y.its.headD ⟨[],[]⟩).r) u.U.length ((u.y.its.drop 1).map Af).length s.2 s.1 a6 ((u.y.its.drop 1).map Af):=ay.up
      have fb:∀ q,a.1=some q->some q.block∉X'/\q.block<W1.drew.heap.size:=λq Z=>by
       have fc:(Value.slice a.1 pg.2.2.length a.2).ownBlock=some q.block:=by rw[Z];rfl
       exact⟨(ah.rx q.block fc).1,(ah.row.lt q.block fc).2⟩
      have JN:=PA0 (c0:=a.2) (P1.below B1) (M1.below B1) (by have:=E.out;have:=C.out;omega) (by have:=E.out;have:=C.out;omega) Q3 dn ag fa (by omega) (by have:=cw.out;have:=a0.out;have:=C.out;omega) (by rw[be.out];exact(ah.below B1).ss) fb;rw[be.out]at JN;have gy:=Ac JN;have br:=Ac bn;clear JN su ay fa d bn ar af fb dn ac;have wu:IntKind.i64.wrap (m:Int)=(m:Int):=JL _ ⟨by omega,by omega⟩
      have i2:(m:Int)<(N:Int):=by omega
      go_wp2_with fail
      go_still_tail 6,(by kernel_rfl)
      change wpList _ _ _ _ _ W1.drew;clear wu
      go_wp2_with (go_at_call 145;(with_reducible refine gy.out.mono ?_);rintro en P ⟨S2,bb,y2,fd,⟨fe,ff⟩,fg,fh,fi,bc,rfl,X2,ic,id,ai,aj,fj,dp⟩;have g5:=Ac fd;have bt:=Ac (AV fe ff);have fk:=Ac (AV fg fh);have g6:=Ac fi;have g7:=Ac bc;have g8:=Ac ai;have b9:=Ac aj;have g9:=Ac fj;have fu:=Ac dp;clear fd fe ff fg fh fi bc ai aj fj dp)
      have fl:=(a3.below B1);have an:=cw.out;rw[<- an]at fl;have fm:=g9.step;rw[JA m 5]at fm;have de:w0.heap.size<=W1.drew.heap.size:=BN U1.size (AY _);have bi:=fl.back (j:=m) (n:=u.y.n) (kd:=2) (l:=Gi (u.y.its.headD ⟨[],[]⟩).r) (i:=u.U.length) (cells:=(u.y.its.drop 1).map Af) (A:=s.1) (c:=s.2) T1 br rfl fm SU b9 fu de;rw[an]at bi
      go_roundg (m+1)
      case rel =>
       have ie:m<ss.length:=by rw[an];have:=a0.out;have:=C.out;omega
       have gw:w0.heap.size<=pb:=(a3.own.lt pb rfl).1;have a8:∀ g,(Value.slice s.1 ((u.y.its.drop 1).map Af).length s.2).ownBlock=some g->w0.heap.size<=g:=λg o=>(a3.rows.lt s (F5 br) g (by rw[<- o];exact(Ii (NG u) s).symm)).1
       have dq:some M∉(some pb :: (Value.slice s.1 ((u.y.its.drop 1).map Af).length s.2).ownBlock :: X'):=λJ=>by
        have ig:=E.2.2.2.2.1
        rcases BI.1 J with e | J
        ·have:M=pb:=CV e;omega
        ·rcases BI.1 J with e | J
         ·have:=a8 M e.symm;omega
         ·exact M1.out.out J
       have fv:bb.isEmpty=false:=by cases bb with | nil=>have:=bt.1;simp at this | cons _ _=>rfl
       refine⟨S2,bb,u.A,y2,u.B,r,_,_,X2,u.U.length,m,a2,rfl,rfl,g5,g6.trans Q4,Q5.trans g7,g8.more (by have:=bt.out;omega) (by have:=bt.out;omega), ?_, ?_,bi, ?_, ?_, ?_, ?_⟩
       ·exact⟨b9.has (M1.below B1).has dq,λJ=>b9.out.out dq (M1.below B1).has.lt (BF _ (BF _ J))⟩
       ·exact(U1.next B1).loc b9 (λg o=>by
         rcases BI.1 o with e | o
         ·exact .inr (by have:g=pb:=CV e;omega)
         ·rcases BI.1 o with e | o
          ·exact .inr (a8 g e.symm)
          ·exact .inl o) (λg o=>BF _ (BF _ o))
       ·rw [mW,mX,T1.out,T2.out];show(Ig r++[NG u]).set m _=_;rw[VK _ _ (by rw[Ci,a2.out];exact AY _),Ci,a2.out,I9,fv,fk.1]
        show Ig r++[(⟨u.y.n,(2,Gi (u.y.its.headD ⟨[],[]⟩).r,(y2.its.drop 1).map Af),u.U.length⟩:Stp)]=Ig r++[⟨u.y.n,FX y2,u.U.length⟩]
        unfold FX;rw[fk.2]
       ·have:=bt.out;have:=C.out;omega
       ·have:=bt.out;have:=bd.out;omega
       ·rw[MX];exact an
      case measure=>have:=Q1.out;omega
     ·have u2:¬ (us:Int)<180:=by omega
      have PS:=Ac (JA1 Q3 (by have:=ac.out;omega) (by have:=ac.out;omega));have SV:=Ac (λW (h:PT W X' p Sr S0 (c+6*Ds.length) (k+10*Ds.length)) (ht:TM W X' M p root) (hs:SS W a.1 pg.2.2.length pg.2.2)=>Hy (n:=x.n) (cp:=a.2) (pg:=pg) h ht (by have:=E.out;have:=C.out;omega) (by have:=E.out;have:=C.out;omega) (ag x.n (BL _ (Cm (by simp) Ds))).1 (ag x.n (BL _ (Cm (by simp) Ds))).2.1 (ag x.n (BL _ (Cm (by simp) Ds))).2.2 (by rw[<- be.out];exact⟨by have:=PL.2;omega,by have:=PL.2;omega,PL.1,by rw[Ud,Ew];have:=ac.out;omega⟩) hs (by have:=dw.out;omega));clear ac
      go_wp2_with (go_at_call 46;(with_reducible refine(SV.out _ P1.out M1.out ah.out.ss).mono ?_);rintro en P ⟨rfl,X2,ai,aj⟩;have ab:=Ac (show aP X0 w0 p S S0 root (c+6*D+7) (k+10*D+11) (D+2) cf L (.returned (.tuple #[])) P from by
       obtain⟨x',hd,q1,q2,q3⟩:=PS;rw[be.out]at q1 q3
       exact⟨rfl,_,x',hd,X2,ai.more (by have:=C.out;omega) (by have:=C.out;omega),U1.trans aj,q1,q2.trans Q4,Q5.trans q3,by have:=bd.out;have:=C.out;show Sr.q<=_;omega⟩);clear ai aj)
      refine IQ (bP rfl _ _ _) rfl ?_;exact ab
end Go.Proofs.YtjihboddejaelaaGreat
namespace Go.Proofs.YtjihboddejaelaaGreat
open Go.RowKit Go.BigFrame
def Jq(e:Addr)(w:World):Calls Tryz.prog 44 #[Value.nilIface,.pointer (some e)] w λe w'=>e = .returned (.tuple #[])/\w=w':=by
 go_enter Tryz.func44,Tryz.ntmps44
 go_wp2
 refine IQ (bP rfl _ _ _) rfl ?_;exact⟨rfl,rfl⟩
def Sj(e:Addr)(w:World):CallsD Tryz.prog 47 #[.pointer (some e)] .returning w λa b w'=>a = .returned (.tuple #[])/\b = .returning/\w'=w:=by
 refine VC Tryz.func47 rfl λc cs d=>?_;apply UY;simp[wpOpsS,go_sem,recoverD,d,Tryz.ntmps47,Exit.thenS];refine(Jq e w).mono ?_;rintro a w' ⟨rfl,rfl⟩
 cases c
 simp_all [bodyPostS,results,Tryz.results47]
def Lu(e:Addr)(w:World):CallsD Tryz.prog 55 #[.pointer (some e)] .returning w λa b w'=>a = .returned (.tuple #[])/\b = .returning/\w'=w:=by
 refine VC Tryz.func55 rfl λc cs d=>?_;apply UY;simp[wpOpsS,go_sem,recoverD,d,Tryz.ntmps55,Exit.thenS];refine(Jq e w).mono ?_;rintro a w' ⟨rfl,rfl⟩
 cases c
 simp_all [bodyPostS,results,Tryz.results55]
def GG0(e:Addr)(w:World):CallsD Tryz.prog 43 #[.pointer (some e)] .returning w λa b w'=>a = .returned (.tuple #[])/\b = .returning/\w'=w:=by
 refine VC Tryz.func43 rfl λc cs d=>?_;apply UY;simp[wpOpsS,go_sem,recoverD,d,Tryz.ntmps43,Exit.thenS];refine(Jq e w).mono ?_;rintro a w' ⟨rfl,rfl⟩
 cases c
 simp_all [bodyPostS,results,Tryz.results43]
def NR0(e:Addr)(w:World):CallsD Tryz.prog 60 #[.pointer (some e)] .returning w λa b w'=>a = .returned (.tuple #[])/\b = .returning/\w'=w:=by
 refine VC Tryz.func60 rfl λc cs d=>?_;apply UY;simp[wpOpsS,go_sem,recoverD,d,Tryz.ntmps60,Exit.thenS];refine(Jq e w).mono ?_;rintro a w' ⟨rfl,rfl⟩
 cases c
 simp_all [bodyPostS,results,Tryz.results60]
def Sm(e:Addr)(w:World):CallsD Tryz.prog 178 #[.pointer (some e)] .returning w λa b w'=>a = .returned (.tuple #[])/\b = .returning/\w'=w:=by
 refine VC Tryz.func178 rfl λc cs d=>?_;apply UY;simp[wpOpsS,go_sem,recoverD,d,Tryz.ntmps178,Exit.thenS];refine(Jq e w).mono ?_;rintro a w' ⟨rfl,rfl⟩
 cases c
 simp_all [bodyPostS,results,Tryz.results178]
def Vj(e:Addr)(w:World):CallsD Tryz.prog 110 #[.pointer (some e)] .returning w λa b w'=>a = .returned (.tuple #[])/\b = .returning/\w'=w:=by
 refine VC Tryz.func110 rfl λc cs d=>?_;apply UY;simp[wpOpsS,go_sem,recoverD,d,Tryz.ntmps110,Exit.thenS];refine(Jq e w).mono ?_;rintro a w' ⟨rfl,rfl⟩
 cases c
 simp_all [bodyPostS,results,Tryz.results110]
def LY0(e:Addr)(w:World):CallsD Tryz.prog 180 #[.pointer (some e)] .returning w λa b w'=>a = .returned (.tuple #[])/\b = .returning/\w'=w:=by
 refine VC Tryz.func180 rfl λc cs d=>?_;apply UY;simp[wpOpsS,go_sem,recoverD,d,Tryz.ntmps180,Exit.thenS];refine(Jq e w).mono ?_;rintro a w' ⟨rfl,rfl⟩
 cases c
 simp_all [bodyPostS,results,Tryz.results180]
def ND1(X:List (Option Nat))(w:World)(p:Nat)(S d:St)(c k:Nat)(key v:Ky)(e:Ending)(w':World):Prop :=
 ∃ it a ps b,e = .returned (.string (Af it))/\it.k=key/\I7 a.G it v ps/\Mv S a [] ps/\ps.length<=3/\a.q<=S.q+3/\PT w' b p a d (c+9) (k+15)/\Turn X b w w'
def tC:∀ (j:Nat) (S:St) (v:Ky),(KP j S v).length<=j+1
 | 0,_,_=>by simp[KP]
 | j+1,S,v=>by
   unfold KP
   split
   ·have:=tC j S.alloc (v.drop 1008);rw[DF];omega
   ·simp
def BI1 {w:World} {X:List (Option Nat)} {d p root c k:Nat} {S f:St} {key v:Ky} (h:PT w X p S f c k) (n:TM w X d p root) (o:c+9<=60000) (r:k<=700000000) (s:S.q<=50000) (b:key.length<=200) (g:v.length<=3000) :
 Calls Tryz.prog 50 #[.pointer (some ⟨d,0,none⟩),.string (AQ key),.string (AQ v)] w (ND1 X w p S f c k key v):=by
 by_cases a:2+key.length+v.length<=240
 ·refine (EF0 a b).mono ?_;rintro t w' ⟨rfl,i⟩;exact⟨⟨key,Nb v⟩,S,[],X,rfl,rfl,.inl ⟨rfl,a,rfl⟩,Mv.refl _ _,by simp,by omega,(h.below i).more (by omega) (by omega),Turn.below X i⟩
 ·refine (GK0 h n o r s b (by omega) g).mono ?_;rintro t w' ⟨rfl,u,x,l⟩;have m:=Mv.more 2 (v:=v) h.ok (by omega) (by omega) [];rw[GI]at m;have j:=rJ 2 S v;refine⟨⟨key,Nh v.length S.Aj⟩,_,KP 2 S v,u,rfl,rfl,.inr ⟨by rw[j.1],by show 240<2+key.length+v.length;omega,g,j.2,rQ 2 h.ok (by omega) (by omega) ?_⟩,m,tC 2 S v,(dW 2 h.ok (by omega) (by omega)).q2,x,l⟩;intro e;rw[e]at a;simp at a;omega
def Jf:∀ (ps:List Nat) (S:St),(Bl S ps).q=S.q
 | [],_=>rfl
 | x :: ps,S=>Jf ps (S.free x)
def DJ0 {w:World} {X:List (Option Nat)} {g p root c k:Nat} {S i:St} {it:It} {v:Ky} {ps:List Nat} (h:PT w X p S i c k) (l:TM w X g p root) (y:c+6<=60000) (z:k<=700000000) (f:it.k.length<=200) (m:I7 S.G it v ps) (A:ps.length<=3) (n:ps.Nodup) (o:∀ x∈ps,0<x/\x<S.q/\x∉S.fr) :
 Calls Tryz.prog 52 #[.pointer (some ⟨g,0,none⟩),.string (Af it)] w (Gw X w p (Bl S ps) i (c+6) (k+12) (.tuple #[])):=by
 obtain⟨key,r⟩:=it
 rcases m with⟨a,b,rfl⟩ |⟨a,b,B,d,e⟩
 ·dsimp only at a;subst a;refine(Sz f (by omega)).mono ?_;rintro s w' ⟨rfl,rfl⟩;exact⟨rfl,X,h.more (by omega) (by omega),Turn.refl _ _⟩
 ·dsimp only at a;subst a;refine(Ur h l (by omega) (by omega) f ⟨jJ e,n,o⟩ d).mono ?_;rintro s w' ⟨rfl,t,u,j⟩;exact⟨rfl,t,u.more (by omega) (by omega),j⟩
end Go.Proofs.YtjihboddejaelaaGreat
namespace Go.Proofs.YtjihboddejaelaaGreat
open Go.RowKit
def Kz.UU{G:Nat->Pg}{l:List It}{E:List En}{P:List (List Nat)}(h:Kz G l E P):∀ e∈E,∃ i∈l,i.k=e.1:=λe b=>by
 have a:e.1∈E.map (·.1):=F6 b;rw[h.keys]at a;obtain⟨i,c,d⟩:=DI.1 a;exact⟨i,c,d⟩
def Kz.cons{G:Nat->Pg}{i:It}{l:List It}{E:List En}{P:List (List Nat)}(h:Kz G (i :: l) E P):∃ v E2 ps a,E=(i.k,v) :: E2/\P=ps :: a/\I7 G i v ps/\Kz G l E2 a:=by
 cases E with
 | nil=>cases P <;> exact h.elim
 | cons e E2 =>
   cases P with
   | nil=>exact h.elim
   | cons ps a=>exact⟨e.2,E2,ps,a,by rw[h.1],rfl,h.2.1,h.2.2⟩
section
variable {G:Nat->Pg} {root:Nat} {A B:List Nd} {x:Nd} {key:Ky} {i:Nat} {E:List En} {P:List (List Nat)}
def dX(h:BP G 0 root (A++x :: B) [])(g:At key A x B)(j:cnt key false x.its=i)(b:i<x.its.length)(c:EU key x.its[i].k):∀ e∈x.its.drop (i+1),ltK key e.k:=λe d=>by
 have f:Yy (A++x :: B):=BP.ord h;have a:=(f.2 x (by simp)).1;rw[<- DX i x.its,FQ b]at a;exact zY c ((JK.1 (XZ.1 a).2.1).1 e d)
def aH (h:BP G 0 root (A++x :: B) []) (g:At key A x B) (l:cnt key false x.its=i) (m:i<x.its.length) (n:x.its[i].k=key) (b:Kz G (Jd (A++x :: B) []) E P) :
 ∃ E1 u E2 c q d,E=E1++(key,u) :: E2/\P=c++q :: d/\Kz G (A.flatMap (·.its)++x.its.take i) E1 c/\I7 G x.its[i] u q/\Kz G (x.its.drop (i+1)++B.flatMap (·.its)) E2 d/\(∀ e∈E1,ltK e.1 key)/\∀ e∈E2,ltK key e.1:=by
 obtain⟨o,s,t⟩:=iY h g;rw[l]at o s
 have v:Jd (A++x :: B) []=(A.flatMap (·.its)++x.its.take i)++(x.its[i] :: (x.its.drop (i+1)++B.flatMap (·.its))):=by
  show(A++x :: B).flatMap (·.its)=_
  have w:x.its=x.its.take i++(x.its[i] :: x.its.drop (i+1)):=by rw[<- FQ m,DX]
  rw[H5,IK];generalize x.its.take i=U at *;generalize x.its.drop (i+1)=V at *;generalize x.its[i]=y at *;rw[w];simp
 rw[v]at b;obtain⟨E1,E',c,P',rfl,rfl,p,z⟩:=b.split;obtain⟨u,E2,q,d,rfl,rfl,C,r⟩:=z.cons;rw[n];refine⟨E1,u,E2,c,q,d,rfl,rfl,p,C,r,λe b=>?_,λe b=>?_⟩
 ·obtain ⟨j,a,f⟩:=p.UU e b;rw[<- f];exact o j a
 ·obtain ⟨j,a,f⟩:=r.UU e b;rw[<- f]
  rcases BO.1 a with a | a
  ·exact dX h g l m (by rw[n];exact Px _) j a
  ·exact t j a
def Ut (h:BP G 0 root (A++x :: B) []) (n:At key A x B) (o:cnt key false x.its=i) (r:∀ d:i<x.its.length,¬ x.its[i].k=key) (a:Kz G (Jd (A++x :: B) []) E P) :
 ∃ E1 E2 f g,E=E1++E2/\P=f++g/\Kz G (A.flatMap (·.its)++x.its.take i) E1 f/\Kz G (x.its.drop i++B.flatMap (·.its)) E2 g/\(∀ e∈E1,ltK e.1 key)/\(∀ e∈E2,ltK key e.1)/\∀ e∈x.its.drop i,ltK key e.k:=by
 obtain⟨p,l,s⟩:=iY h n;rw[o]at p l
 have kd:∀ e∈x.its.drop i,ltK key e.k:=λe a=>by
  by_cases d:i<x.its.length
  ·rw [FQ d] at a l;have c:=l x.its[i] AZ
   rcases BI.1 a with rfl | a
   ·exact(Uk c).elim id λe=>absurd e.symm (r d)
   ·exact dX h n o d c e a
  ·rw[IY (by omega)]at a;cases a
 have t:Jd (A++x :: B) []=(A.flatMap (·.its)++x.its.take i)++(x.its.drop i++B.flatMap (·.its)):=by
  show(A++x :: B).flatMap (·.its)=_;have u:x.its=x.its.take i++x.its.drop i:=(DX i x.its).symm;rw[H5,IK];generalize x.its.take i=U at *;generalize x.its.drop i=V at *;rw[u];simp
 rw[t]at a;obtain⟨E1,E2,f,g,rfl,rfl,c,q⟩:=a.split;refine⟨E1,E2,f,g,rfl,rfl,c,q,λe a=>?_,λe a=>?_,kd⟩
 ·obtain ⟨j,b,m⟩:=c.UU e a;rw[<- m];exact p j b
 ·obtain ⟨j,b,m⟩:=q.UU e a;rw[<- m]
  rcases BO.1 b with b | b
  ·exact kd j b
  ·exact s j b
def oO {ups:List CY} {j:Nat} {it:It} (h:BP G 0 root (A++x :: B) []) (k:FI G 0 root A x B ups) (f:At key A x B) (w:cnt key false x.its=i) (y:i<=j) (nd:(Fe (A++x :: B) [] ups).Nodup) (o:∀ p∈Fe (A++x :: B) [] ups,p≠0) (d:it.k=key) (q:1<=key.length/\key.length<=200) (z:CO it<=244) (r:∀ e∈x.its.drop j,ltK key e.k) :
 Pnd G root [] A ⟨x.n,x.lo,x.its.take i++it :: x.its.drop j⟩ B ups/\Fe (A++(⟨x.n,x.lo,x.its.take i++it :: x.its.drop j⟩:Nd) :: B) [] ups=Fe (A++x :: B) [] ups:=by
 have l:Jw G 0 root (A++x :: B):=h;have s:Yy (A++x :: B):=BP.ord h;obtain⟨t,F,H⟩:=iY h f;rw[w]at t;have u:∀ e∈x.its.take i,ltK e.k key:=λe c=>t e (BC _ c);have g:=s.2 x (by simp);have C:∀ b∈B,SL x b:=(JK.1 (Qa.1 s).2.1.1).1
 have sub:∀ e∈x.its.take i++it :: x.its.drop j,e=it\/e∈x.its:=λe c=>by
  rcases BO.1 c with c | c
  ·exact .inr (nD c)
  ·rcases BI.1 c with c | c
   ·exact .inl c
   ·exact .inr (JV c)
 refine qY h k nd o ?_ ?_ ?_ ?_ ?_
 ·refine XZ.2 ⟨g.1.sublist (List.take_sublist _ _),JK.2 ⟨λe c=>by rw [d];exact r e c,g.1.sublist (dK _ _)⟩,λa v b hb2=>?_⟩
  rcases BI.1 hb2 with rfl | hb2
  ·rw[d];exact u a v
  ·exact Fg (u a v) (r b hb2)
 ·intro e c
  rcases sub e c with rfl | c
  ·rw[d];exact f.lo
  ·exact g.2 e c
 ·intro e c b m
  rcases sub e c with rfl | c
  ·rw[d];exact f.hi b m
  ·exact(C b m).2 e c
 ·intro e c
  rcases sub e c with rfl | c
  ·exact⟨by rw[d];exact q.1,by rw[d];exact q.2,z⟩
  ·exact l.keys x (by simp) e c
 ·have I:Ak x.its<=1012:=(l.fit x (by simp) (o x.n (BL _ (Cm (by simp) [])))).le
  have D:Ak x.its=Ak (x.its.take j)+Ak (x.its.drop j):=by rw[<- Ff,DX]
  have E:x.its.take j=x.its.take i++(x.its.take j).drop i:=by
   conv=>lhs;rw[<- DX i (x.its.take j)]
   rw[MF,MC y]
  rw[E,Ff]at D;rw[Ff,Dn];omega
def KL1 {ups:List CY} (h:BP G 0 root (A++x :: B) []) (k:FI G 0 root A x B ups) (nd:(Fe (A++x :: B) [] ups).Nodup) (f:∀ p∈Fe (A++x :: B) [] ups,p≠0) (i:Nat) :
 Pnd G root [] A ⟨x.n,x.lo,x.its.take i++x.its.drop (i+1)⟩ B ups/\Fe (A++(⟨x.n,x.lo,x.its.take i++x.its.drop (i+1)⟩:Nd) :: B) [] ups=Fe (A++x :: B) [] ups:=by
 have d:Jw G 0 root (A++x :: B):=h;have g:Yy (A++x :: B):=BP.ord h;have j:=g.2 x (by simp);have m:∀ b∈B,SL x b:=(JK.1 (Qa.1 g).2.1.1).1
 have c:(x.its.take i++x.its.drop (i+1)).Sublist x.its:=by
  rw[<- Ab1];exact List.eraseIdx_sublist _ _
 refine qY h k nd f (j.1.sublist c) (λe a=>j.2 e (c.subset a)) (λe a b l=>(m b l).2 e (c.subset a)) (λe a=>d.keys x (by simp) e (c.subset a)) ?_;have r:Ak x.its<=1012:=(d.fit x (by simp) (f x.n (BL _ (Cm (by simp) [])))).le
 have o:Ak x.its=Ak (x.its.take (i+1))+Ak (x.its.drop (i+1)):=by rw[<- Ff,DX]
 have q:x.its.take (i+1)=x.its.take i++(x.its.take (i+1)).drop i:=by
  conv=>lhs;rw[<- DX i (x.its.take (i+1))]
  rw[MF,MC (by omega)]
 rw[q,Ff]at o;rw[Ff];omega
end
def Mv.stay{S c:St}{a b r:List Nat}(m:Mv S c a b)(e:(a++r++S.fr).Nodup)(f:∀ x∈a++r++S.fr,0<x/\x<S.q)(g:0<S.q):(∀ p∈r,c.G p=S.G p)/\(b++r++c.fr).Nodup/\(∀ x∈b++r++c.fr,0<x/\x<c.q)/\0<c.q:=by
 obtain⟨h,n2⟩:=(m.frame r).nd e f;refine⟨λp d=>m.keep p (f p (by simp[d])).1 (f p (by simp[d])).2 (λi=>?_) (λj=>?_),h,n2 g,DD g m.q⟩
 ·exact(CZ.1 (CZ.1 e).1).2.2 p i p d rfl
 ·exact(CZ.1 e).2.2 p (BC _ d) p j rfl
structure sV (S S2 S3:St) (Z F1 q F2 ps own:List Nat):Prop where
 g2:∀ p∈Z++(F1++q++F2),S2.G p=S.G p
 qn:q.Nodup
 qr:∀ p∈q,0<p/\p<S2.q/\p∉S2.fr
 g3:∀ p∈ps++Z++F1++F2,S3.G p=S2.G p
 n3:(Z++(F1++ps++F2)++S3.fr).Nodup
 r3:∀ p∈Z++(F1++ps++F2)++S3.fr,0<p/\p<S3.q
 p3:0<S3.q
 mv:Mv S S3 own (Z++(F1++ps++F2))
def eH{S b:St}{root:Nat}{f:Nd}{c:List (List Nd)}{E:List En}{P:List (List Nat)}{Z F1 q F2 ps:List Nat}(ok:GY S)(n:Vp S root f c E P)(p:(Gl [f] c).Perm Z)(j:P.flatten=F1++q++F2)(m2:Mv S b [] ps):sV S b (Bl b q) Z F1 q F2 ps (Gl [f] c++P.flatten):=by
 have k:=n.nd;have g:=n.rng;rw[j]at k g ⊢;have d:(Z++(F1++q++F2)).Perm (Gl [f] c++(F1++q++F2)):=p.symm.append_right _
 have r:([]++(Z++(F1++q++F2))++S.fr).Nodup:=by
  rw[JU];refine CZ.2 ⟨d.nodup_iff.2 k,ok.nd,λy a z s e=>?_⟩;exact(g y (d.mem_iff.1 a)).2.2 (e ▸ s)
 have t:∀ y∈[]++(Z++(F1++q++F2))++S.fr,0<y/\y<S.q:=λy a=>by
  rw[JU]at a
  rcases BO.1 a with a | a
  ·have:=g y (d.mem_iff.1 a);exact⟨this.1,this.2.1⟩
  ·exact ok.rng y a
 obtain⟨u,n2,v,w⟩:=m2.stay r t ok.pos
 have o:Mv b (Bl b q) q []:=by have:=Mv.Bl q (S:=b) [];rwa [GI]at this
 have l:(q++(ps++Z++F1++F2)++b.fr).Perm (ps++(Z++(F1++q++F2))++b.fr):=JW.2 λy=>by simp only[JD];omega
 have h:=l.nodup_iff.2 n2;have i:=λy (a:y∈q++(ps++Z++F1++F2)++b.fr)=>v y (l.mem_iff.1 a);obtain⟨x,A,B,C⟩:=o.stay h i w
 have m:(Z++(F1++ps++F2)++(Bl b q).fr).Perm ([]++(ps++Z++F1++F2)++(Bl b q).fr):=JW.2 λy=>by simp only[JD,YI];omega
 refine⟨u,(CZ.1 (CZ.1 h).1).1,λy a=>⟨(i y (by simp[a])).1,(i y (by simp[a])).2,λj=>(CZ.1 h).2.2 y (BL _ a) y j rfl⟩,x,m.nodup_iff.2 A,λy a=>B y (m.mem_iff.1 a),C, ?_⟩;refine((m2.frame (Z++(F1++q++F2))).trans ((o.frame (ps++Z++F1++F2)).perm ?_ (MZ _))).perm d.symm ?_
 ·exact JW.2 λy=>by simp only[JD];omega
 ·exact JW.2 λy=>by simp only[JD,YI];omega
def iI {S j l b:St} {root:Nat} {f:Nd} {e:List (List Nd)} {Z q ps own:List Nat} {I1 I2 M:List It} {E1 E2 m:List En} {c d g:List (List Nat)} (h:sV S j l Z c.flatten q d.flatten ps own) (n:Mv l b Z (Gl [f] e)) (tr:NH b.G root f e) (s:Jd [f] e=I1++(M++I2)) (t:Kz S.G I1 E1 c) (u:Kz S.G I2 E2 d) (v:Kz j.G M m g) (o:g.flatten=ps) :
 Vp b root f e (E1++(m++E2)) (c++(g++d))/\Mv S b own (Gl [f] e++(c++(g++d)).flatten):=by
 obtain⟨k,p,r,B⟩:=n.stay h.n3 h.r3 h.p3
 have i:(c++(g++d)).flatten=c.flatten++ps++d.flatten:=by rw[PZ,PZ,o,BU]
 have w:∀ y∈ps,b.G y=j.G y:=λy a=>(k y (by simp[a])).trans (h.g3 y (by simp[a]));have x:∀ y∈c.flatten,b.G y=S.G y:=λy a=>((k y (BL _ (BL _ a))).trans (h.g3 y (BL _ (BC _ a)))).trans (h.g2 y (BC _ (BL _ (BL _ a))));have z:∀ y∈d.flatten,b.G y=S.G y:=λy a=>((k y (BC _ a)).trans (h.g3 y (BC _ a))).trans (h.g2 y (BC _ (BC _ a)));rw[i];refine⟨⟨tr, ?_, ?_, ?_⟩,h.mv.trans (n.frame _)⟩
 ·rw [s];exact(t.congr x).app ((v.congr (by rw[o];exact w)).app (u.congr z))
 ·rw[i];exact(CZ.1 p).1
 ·rw [i]
  exact λy a=>⟨(r y (BL _ a)).1,(r y (BL _ a)).2,λA=>(CZ.1 p).2.2 y a y A rfl⟩
open Go.BigFrame
def JZ0 {w:World} {tv:Value} {key v:Ky} (d:1<=key.length/\key.length<=200) (j:3000<v.length) :
 Calls Tryz.prog 12 #[tv,.string (AQ key),.string (AQ v)] w λe w'=>e = .returned (.int .i64 8)/\Below w.heap.size w w':=by
 have h:∀(a:Fn) (first cap:Array Value) (w:World),(Instr.makeFunc a first cap).run Tryz.prog w = .ok (.func a first cap) w:=λ_ _ _ _=>rfl;have b:=Ac (λW=>Ny (AQ key) (by rw[Bf];omega) W)
 have g:decide (1<=(AQ key).size/\(AQ key).size<=200)=true:=by rw[Bf];exact EW d
 rw[g]at b;obtain⟨V,c⟩:∃ s,AQ v=s:=⟨_,rfl⟩
 have k:(3000:Int)<(V.size:Int):=by rw[<- c,Bf];omega
 rw[c]
 go_enter_defers Tryz.func12,Tryz.ntmps12
 go_wp2_with (first |(go_at_call 48;refine(b _).mono ?_;rintro e w1 ⟨rfl,rfl⟩))
 refine JI (f:=47) (args:=#[.pointer (some ⟨w.heap.size,0,none⟩)]) (by simp) (by simp[go_sem]) ?_;refine(Sj ⟨w.heap.size,0,none⟩ _).mono ?_;rintro e l i ⟨rfl,rfl,rfl⟩;simp[Leaves,settle,results,mF,go_sem]
 (repeat(first | exact AU _ _ | assumption |(refine YL ?_ (by first | omega |(simp <;> omega)) _) | refine LJ ?_ |(refine YM ?_ (by first | omega |(simp <;> omega)) _) |(refine Ap ?_ (by assumption) (by first | omega |(simp <;> omega)))))
def Nc.setRow{W:World}{X:List (Option Nat)}{pb o n kd l i m c g:Nat}{a:Array Value}{cells:List ByteArray}(h:Nc W X pb o n kd l i m c (some ⟨g,0,none⟩) a cells)(u:Nat)(s:ByteArray):Nc (W.setCell ⟨g,u,none⟩ (.string s)) X pb o n kd l i m c (some ⟨g,0,none⟩) a (cells.set u s) :=
 ⟨h.hb.far (p:=⟨g,u,none⟩) (λe=>(h.rx g rfl).2 e.symm) _,h.c0,h.c1,h.c2,h.c3,h.c4,h.nb,by rw[<- rO];exact CD1 h.row u _,h.rx⟩
def MJ0{α:Type}{l:List α}{j:Nat}{a:α}(h:l[j]? = some a):l.set j a=l:=by
 refine JC λk=>?_;rw[List.getElem?_set];by_cases e:j=k
 ·subst e;rw[AC rfl,h,AC (C9.1 h).1]
 ·rw[AO e]
def JW1 {w:World} {X:List (Option Nat)} {d pb cap j n kd l i c g:Nat} {ss:List Stp} {m:List Ad} {f:Array Value} {cells:List ByteArray} (h:Nq w X d (.slice (some ⟨pb,0,none⟩) ss.length cap) ss m) (v:ss[j]? = some ⟨n,(kd,l,cells),i⟩) (p:m[j]? = some (some ⟨g,0,none⟩,c)) (o:Nc w X pb (5*j) n kd l i cells.length c (some ⟨g,0,none⟩) f cells) (t:d<=w.heap.size) (u:Nat) (s:ByteArray) :
 Nq (w.setCell ⟨g,u,none⟩ (.string s)) X d (.slice (some ⟨pb,0,none⟩) ss.length cap) (ss.set j ⟨n,(kd,l,cells.set u s),i⟩) m:=by
 have x:(cells.set u s).length=cells.length:=MX;have k:=o.setRow u s;have r:f.setIfInBounds (5*j+3) (.slice (some ⟨g,0,none⟩) cells.length c)=f:=pU o.c3
 have y:Turn (some pb :: (Value.slice (some ⟨g,0,none⟩) cells.length c).ownBlock :: X) (some pb :: (Value.slice (some ⟨g,0,none⟩) (cells.set u s).length c).ownBlock :: X) w (w.setCell ⟨g,u,none⟩ (.string s)) :=
  ⟨rfl,rfl,rfl,by simp,λq a z=>CX _ _ _ _ (λe=>z (by rw[e];simp[Value.ownBlock])),λq a=>.inl a⟩
 have b:=h.back (A':=some ⟨g,0,none⟩) (c':=c) (cells':=cells.set u s) v p rfl (by rw[x,r];exact k) o y (λq a=>.inl a) t;rw[MJ0 p]at b;exact b
def fZ (pb o i n c lo:Nat) (A:Option Addr) (a:ByteArray):Nat->Value->World->Prop
 | 0,v,_=>v = .pointer (some ⟨pb,o,none⟩)
 | 1,v,_=>v = .pointer (some ⟨pb,o,none⟩)
 | 2,v,_=>v = .pointer (some ⟨pb,o,none⟩)
 | 3,v,_=>v = .pointer (some ⟨pb,o,none⟩)
 | 4,v,_=>v = .pointer (some ⟨pb,o+1,none⟩)
 | 5,v,_=>v = .pointer (some ⟨pb,o+3,none⟩)
 | 6,v,_=>v = .slice A n c
 | 7,v,_=>v = .pointer (some ⟨pb,o,none⟩)
 | 8,v,_=>v = .pointer (some ⟨pb,o,none⟩)
 | 9,v,_=>v = .pointer (some ⟨pb,o+4,none⟩)
 | 10,v,_=>v = .int .i64 i
 | 11,v,_=>v = .string a
 | 12,v,w=>∃ g,v = .slice (some ⟨g,0,none⟩) 1 1/\Has w g 9 #[.string a]/\lo<=g
 | _,_,_=>True
def SY0 (pb o i n c lo:Nat) (A:Option Addr) (a:ByteArray):∀ j v (w w':World),Below w.heap.size w w'->fZ pb o i n c lo A a j v w->fZ pb o i n c lo A a j v w'
 | 0,_,_,_,_,h=>h
 | 1,_,_,_,_,h=>h
 | 2,_,_,_,_,h=>h
 | 3,_,_,_,_,h=>h
 | 4,_,_,_,_,h=>h
 | 5,_,_,_,_,h=>h
 | 6,_,_,_,_,h=>h
 | 7,_,_,_,_,h=>h
 | 8,_,_,_,_,h=>h
 | 9,_,_,_,_,h=>h
 | 10,_,_,_,_,h=>h
 | 11,_,_,_,_,h=>h
 | 12,_,_,_,hb,⟨g,e,hg,hl⟩=>⟨g,e,hg.Ai hb,hl⟩
 | _+13,_,_,_,_,_=>trivial
def Yw(X:List (Option Nat))(w:World)(p:Nat)(S f:St)(root c k:Nat)(own:List Nat)(E:List En)(v:Value)(g:Ending)(w':World):Prop :=
 g = .returned v/\∃ a d b P' e,PT w' e p a f (c+120) (k+220)/\Turn X e w w'/\Vp a root d b E P'/\Mv S a own (Gl [d] b++P'.flatten)/\(∀ ps∈P',ps.length<=3)/\a.q<=S.q+21
attribute [local go_sem] Ea Bz Bq Act.put
def DU0{c:Code}{K:Act->World->Prop}{Q:Exit->Act->World->Prop}{a:Act}{w:World}(h:c.wp Tryz.prog (Exit.then K (λ_ _ _=>False)) a w):c.wp Tryz.prog (Exit.then K Q) a w :=
 Code.wp_mono (λe a w h=>by cases e <;> first | exact h | exact False.elim h) h
def JV1 {w:World} {X:List (Option Nat)} {tb p root c k:Nat} {S S0:St} {x0:Nd} {ao:List (List Nd)} {E:List En} {P:List (List Nat)} {key v:Ky} (h:PT w X p S S0 c k) (ht:TM w X tb p root) (hc:c+400<=60000) (hk:k<=600000000) (hq:S.q<=49000)
 (hs:Vp S root x0 ao E P) (h3:∀ ps∈P,ps.length<=3) (bb:1<=key.length/\key.length<=200) (hv:v.length<=3000) :
 Calls Tryz.prog 12 #[.pointer (some ⟨tb,0,none⟩),.string (AQ key),.string (AQ v)] w (Yw X w p S S0 root c k (Gl [x0] ao++P.flatten) (JZ key v E) (.int .i64 0)):=by
 have ee:∀(fn:Fn) (first cap:Array Value) (w:World),(Instr.makeFunc fn first cap).run Tryz.prog w = .ok (.func fn first cap) w:=λ_ _ _ _=>rfl;have RI:=Ac (λW=>Ny (AQ key) (by rw[Bf];omega) W)
 have e1:decide (1<=(AQ key).size/\(AQ key).size<=200)=true:=by rw[Bf];exact EW bb
 rw[e1]at RI;have be:=h.ok;have cr:=aY hs.tre (λq hq=>by have:=hs.rng q (BL _ hq);exact⟨this.1,this.2.1⟩) (CZ.1 hs.nd).1 (by omega);have DS:=Ac (λW (h:PT W X p S S0 c k) (ht:TM W X tb p root)=>Su h ht (by omega) (by omega) hs.tre be.pg (λq hq=>by have:=hs.rng q (BL _ hq);exact⟨this.1,this.2.1⟩) (by omega) (by omega) key);have HP:=Ac h;have HT:=Ac ht;have HS:=Ac hs;have H3:=Ac h3;have OK:=Ac be;have bf:=Ac (AV bb hv);have C:=Ac (AV hc (AV hk (AV hq (AV cr (AV ht.has.lt be.pos)))));have EN:=Ac (λW X c1 k1 (h:PT W X p S S0 c1 k1) (ht:TM W X tb p root) (dq:c1+9<=60000) (dr:k1<=700000000)=>BI1 h ht dq dr (by omega) bb.2 hv)
 have zV:¬(3000:Int)<((AQ v).size:Int):=by rw[Bf];omega
 obtain⟨K,hK⟩:∃ s,AQ key=s:=⟨_,rfl⟩;obtain⟨V,hV⟩:∃ s,AQ v=s:=⟨_,rfl⟩;rw[hK]at RI DS EN ⊢;rw[hV]at EN zV ⊢;have HK:=Ac hK;clear h ht hs h3 bb hv hc hk hq cr e1 be hV hK
 go_enter_defers Tryz.func12,Tryz.ntmps12
 go_wp2_with (first |(go_at_call 48;refine(RI _).mono ?_;rintro e w1 ⟨rfl,rfl⟩))
 have B0:=Ag w (.cells #[.int .i64 0] 26);have P0:=HP.below B0;have M0:=HT.below B0;have E0:=Ac (Has.new w 26 #[.int .i64 0]);have EX:=Ac (show some w.heap.size∉X/\tb<w.heap.size from⟨λhm=>by have:=HP.lt _ hm;omega,HT.has.lt⟩);have U0:=Ac (Turn.below X B0);have Z0:(w.alloc (.cells #[.int .i64 0] 26)).heap.size=w.heap.size+1:=ED _ _;clear B0 HP HT;obtain⟨R,b2⟩:∃ n,w.heap.size=n:=⟨_,rfl⟩;have cy:=Ac b2;rw[b2]at E0 EX Z0 ⊢;generalize w.alloc (.cells #[.int .i64 0] 26)=W0 at *;have af:=Ac Z0;refine(DS W0 P0 M0).mono ?_;rintro en w1 ⟨A,x,B,ups,rs,X1,v1,dn,ab,ak,hl,ct,rfl,b3,b4,az⟩;rw[Z0]at az;obtain⟨D,hD⟩:∃ n,ao.length=n:=⟨_,rfl⟩;rw[hD]at hl b3 C
 have b5:(Ig ups++[E8 key B x]).length=D+1:=by rw[A8,Ci,hl];rfl
 have s1:(Ig ups++[E8 key B x])[D]? = some (E8 key B x):=by rw[GU (by rw[Ci];omega),Ci,hl,I9];rfl
 obtain⟨pb,cap,b6,a,rfl,ha,cz,b7,st⟩:=az.step s1;rw[b5]at az b7 ⊢;rw[JA 5 D]at st;have c0:=Ac az;have c2:=Ac st;have P1:=Ac b3;have M1:=Ac (M0.turn b4);have U1:=Ac (b4);have DN:=Ac dn;have AB:=Ac ab;have AK:=Ac ak;have HL:=Ac (AV hl (AV ct (AV hD (AV b5 s1))));have HA:=Ac (AV ha (AV cz b7));clear dn ab ak hl ct b3 b4 az b5 s1 ha cz b7 DS RI P0 M0 hD b2
 obtain⟨i,hi⟩:∃ n,cnt key false x.its=n:=⟨_,rfl⟩;obtain⟨cs,b8⟩:∃ l,x.its.map Af=l:=⟨_,rfl⟩;have es:(E8 key B x).pg.2.2=cs:=b8;have ei:(E8 key B x).i=i:=hi;have o:=Ac (AV hi b8);obtain⟨hb,b9⟩:∃ l,hdN B 0=l:=⟨_,rfl⟩
 have st:Nc w1 X1 pb (D*5) x.n 1 hb i cs.length a.2 a.1 b6 cs:=by rw[<- es,<- ei,<- b9];exact c2
 have HB:=Ac b9;clear c2 es ei hi b8 b9
 have i1:(D:Int)<(D:Int)+1:=by omega
 have eg:D<=15:=C.2.2.2.1
 go_wp2_with fail
 refine(EN w1 X1 _ _ P1 M1 (by have:=C.out;omega) (by have:=C.out;omega)).mono ?_;rintro en w2 ⟨it,S2,ps,X2,rfl,c4,c5,c6,c7,c8,c9,a0⟩;have P2:=Ac c9;have M2:=Ac (M1.turn a0);have U2:=Ac (U1.trans a0);have bg:=Ac (c0.turn a0);have Z:=Ac (st.turn a0);have F:=Ac (AV c4 (AV c5 (AV c6 (AV c7 c8))));clear c9 a0 P1 M1 U1 c0 st c4 c5 c6 c7 c8 EN;obtain⟨g0,g1,g2,g3,g4⟩:=Z.at5;have gz:=Z.hb.lt;have gf:=Z.hb.frozen;obtain⟨CB,ca⟩:∃ v,Af it=v:=⟨_,rfl⟩;rw[ca];have da:=Ac ca;clear ca;have bs:=HS.ent;have cb:=Xt (Ds:=[]) AB;have bq:=UL (Ds:=[]) AB;rw[HL.2.1]at cb bq;rw[cb]at bs;have db:=Ac bs;have bc:=Ac (show(Gl [x0] ao).Perm (Fe (A++x :: B) [] ups)from bq)
 have NZ:=Ac (show(Fe (A++x :: B) [] ups).Nodup/\∀ p∈Fe (A++x :: B) [] ups,p≠0 from⟨bc.nodup_iff.1 (CZ.1 HS.nd).1,λp hp=>by have:=(HS.rng p (BL _ (bc.mem_iff.2 hp))).1;omega⟩);clear bs cb bq;by_cases bt:∃ hl:i<x.its.length,x.its[i].k=key
 ·obtain ⟨cu,cv⟩:=bt
  have hz:i<cs.length:=by rw[<- o.2,BZ];exact cu
  have bh:(i:Int)<(cs.length:Int):=by omega
  have zc:decide ((i:Int)<(cs.length:Int))=true:=EW bh
  have ag:i<x.its.length:=by rw[<- o.2,BZ]at hz;exact hz
  obtain⟨m,Q⟩:∃ t,x.its[i]=t:=⟨_,rfl⟩
  have ah:cs[i]? = some (Af m):=by rw[<- o.2,GH,DK ag,Q];rfl
  have bi:=Z.ss
  have a1:m.k.length<=200/\m.r.length<=300:=by
   have q:=BP.sz DN (x:=x) (by simp) (i:=m) (by rw[<- Q];exact EI _);have q2:=q.1;unfold CO at q2;exact⟨q.2.1,by omega⟩
  have KO:=Ac (λW n=>((Il m a1.1 (by omega) (World.drewN W n)).mono (R':=λe w'=>e = .returned (.string (AQ m.k))/\w'=W.drewN n) (by rintro e w' ⟨rfl,rfl⟩;exact⟨rfl,rfl⟩)));obtain⟨CJ,ap⟩:∃ v,Af m=v:=⟨_,rfl⟩;rw[ap]at KO ah;obtain⟨gr,off,T,gl,lc⟩:=bi.2 (by omega);have aq:=lc i CJ ah
  obtain⟨ac,a2,a3,ds,dt,ho⟩:∃ ac a2,Has w2 gr 9 ac/\cs.length<=ac.size/\a2=a.2/\off=0:=by
   rcases Z.row.2 with⟨b,q2⟩ |⟨g',dl,bu,b,q2,q3,q4,q5,q6,q7⟩
   ·injection b with b q8;rw[b]at T;cases T
   ·injection b with b q8 q9
    rw[T]at b
    injection b with b
    injection b with b q10
    exact⟨bu,a.2,by rw[b];exact q3,by omega,rfl,q10⟩
  subst ho;have bj:ac[i]? = some (.string CJ):=(a3.cell i).symm.trans (by have:=lc i CJ ah;rwa [FM]at this);rw[FM]at aq;rw[T]at g3
  have aj:m.k=key:=by rw[<- Q];exact cv
  clear cv cu;rw[aj,HK.out]at KO
  go_wp2_with fail
  go_quiet ((go_at_call 51;refine nS (KO _ _)))
  go_wp2_with fail
  have L:=PR (AU w2.heap.size w2) nq;have P3:=Ac (P2.below L);have M3:=Ac (M2.below L);have U3:=Ac (U2.next L);have a4:=Ac (bg.below L);have aa:=Ac (Z.below L);have bk:=Ac (a3.Ai L);clear P2 M2 U2 bg Z g0 g1 g2 g3 g4 gz gf L aq lc a3 bi KO gl;generalize w2.drewN nq=w3 at *;obtain⟨g0,g1,g2,g3,g4⟩:=aa.at5;rw[T]at g3;have gz:=aa.hb.lt;have aq:=(bk.cell i).trans bj;have gl:=bk.lt;obtain⟨E1,u,E2,P1,q,P2,hE,O,f1,f2,f3,f4,f5⟩:=aH DN AK o.1 ag (by rw[Q];exact aj) db;rw[Q]at f2;have I:=Ac (eH OK HS bc (F1:=P1.flatten) (q:=q) (F2:=P2.flatten) (by rw[O];simp) F.2.2.1);have q3:q.length<=3:=H3 q (by rw[O];simp);have dc:I7 S2.G m u q:=f2.congr (λy d=>I.g2 y (by simp[d]))
  have LP:=oO (j:=i+1) (it:=it) DN AB AK o.1 (EZ i) NZ.1 NZ.2 F.1 bf.1 (F.2.1.sz (by rw[F.1];exact bf.1.2)) (dX DN AK o.1 ag (by rw[Q,aj];exact Px _))
  have PD:=Ac (AV (LP.1.congr (G':=(Bl S2 q).G) (λy d=>by
   rw[LP.2]at d
   rw[I.g3 y (by simp[d]),I.g2 y (by simp[d])])) LP.2)
  have B4:=(AU w3.heap.size w3).drew;have P4:=Ac (P3.below B4);have M4:=Ac (M3.below B4);have U4:=Ac (U3.next B4);have au:=Ac (a4.below B4);have J:=Ac (aa.below B4);have dd:=Ac (bk.Ai B4);have RS:=Ac (DJ0 P4 M4 (by have:=C.out;omega) (by have:=C.out;omega) a1.1 dc q3 I.qn I.qr);rw[ap]at RS;have cc:=Ac (AV hE (AV O (AV f1 (AV f3 (AV f4 f5)))));have AR:=Ac T;have du:=Ac bj;clear P3 M3 U3 a4 aa bk B4 hE O f1 f2 f3 f4 f5 dc LP q3 Q aj ap T bj a1 ah
  go_still_tail 13,(by kernel_rfl)
  change wpList _ _ _ _ _ w3.drew
  go_wp2_with (go_at_call 52;(with_reducible refine RS.out.mono ?_);rintro en w4 ⟨rfl,X4,de,av⟩;have P5:=Ac de;have M5:=Ac (M4.turn av);have U5:=Ac (U4.trans av);have dv:=Ac (au.turn av);have bl:=Ac (J.turn av);have GX:=Ac (bl.rx gr (by rw[AR.out];rfl));have bm:=Ac (av.has dd (J.rx gr (by rw[AR.out];rfl)).1);clear de av P4 M4 U4 au J dd RS;obtain⟨g0,g1,g2,g3,g4⟩:=bl.at5;rw[AR.out]at g3;have gz:=bl.hb.lt;have gl:=bm.lt;have gf:=bm.frozen;have aq:=(bm.cell i).trans du)
  have B6:=(AU w4.heap.size w4).drew;have dw:=bm.Ai B6;have cd:=bl.below B6;have ce:=dv.below B6
  have a5:R+1<=w4.drew.heap.size:=by have:=U5.size;have:=af.out;show R+1<=w4.heap.size;omega
  have cf:=EX.2;obtain⟨ad,br,cg,Y,a6⟩:=HL.out
  have aw:E8 key B x=⟨x.n,(1,hb,cs),i⟩:=by
   unfold E8 TR;rw[o.1,o.2,HB.out]
  have bn:=HA.1;have df:a=(some ⟨gr,0,none⟩,a.2):=Prod.ext AR rfl;rw[df]at bn;rw[AR.out,JA D 5]at cd;have ch:=JW1 (cap:=cap) (by rw[Y];exact ce) (by rw[a6,aw]) bn cd a5 i CB;have P7:=(P5.below B6).set GX.1 i (.string CB);have cw:R+1<=gr:=(ce.rows.lt _ (F5 bn) gr rfl).1;have M7:=(M5.below B6).set (g:=gr) (by omega) i (.string CB);have U7:=(U5.next B6).Dz (g:=gr) (by rw[af.out];exact cw) i (.string CB);rw[Y]at ch;have dg:=Jf q S2
  have cj:=Ac (Zj (w0:=W0) (X0:=X) (i:=i) (N:=D+1) (D:=D) P7 M7 (by have:=C.out;omega) (by have:=C.out;omega) (by have:=C.out;have:=F.out;omega) (by omega) PD.1 (by rw[PD.2];exact I.n3.sublist ((Aa3 _ _).append (nN _))) (by
   rw[PD.2];intro y d
   rcases BO.1 d with d | d
   ·exact I.r3 y (by simp[d])
   ·exact I.r3 y (by simp[d])) U7 (by rw[af.out];exact ch) (by
   rw[ad,<- Y,<- MX,QU];rw[VK _ _ (by rw[Ci];omega),Ci,ad,I9]
   show Ig ups++[_]=Ig ups++[_]
   congr 2
   show(⟨x.n,(1,hb,cs.set i CB),i⟩:Stp)=⟨x.n,(1,hdN B 0,(x.its.take i++it :: x.its.drop (i+1)).map Af),i⟩
   rw[HB.out,<- o.2,<- da.out,D9,DW,QX,MW,List.set_eq_take_append_cons_drop,AC (by rw[BZ];exact ag)]) ad (by rw[MX];exact Y) rfl (by have:=af.out;omega))
  clear B6 dw cd ce a5 ad br cg Y a6 aw bn df ch P7 M7 U7 cw dg cf
  go_still_tail 11,(by kernel_rfl)
  change wpList _ _ _ _ _ w4.drew
  go_wp2_with fail
  refine cj.mono ?_;rintro en w7 ⟨rfl,S7,x7,ck,X7,a7,ae,a8,a9,al,q7⟩
  have cl:=Ac (show Yw X w p S S0 root c k (Gl [x0] ao++P.flatten) (JZ key v E) (.int .i64 0) (.returned (.int .i64 0)) (w7.setCell ⟨R,0,none⟩ (.int .i64 0))from by
   obtain⟨hE,O,f1,f3,f4,f5⟩:=cc.out;rw[PD.2]at al;have em:Kz S2.G [it] [(key,v)] [ps]:=⟨F.1,F.2.1,trivial⟩
   have pp:=iI I al a8 (I1:=A.flatMap (·.its)++x.its.take i) (I2:=x.its.drop (i+1)++B.flatMap (·.its)) (M:=[it]) (a9.trans (by
    show(A++_ :: B).flatMap (·.its)=_
    rw[H5,IK];simp)) f1 f3 em (by simp)
   have dg:=Jf q S2;refine⟨rfl,S7,x7,ck,_,X7,(a7.set (ae.out EX.1 E0.lt) 0 _).more (by have:=C.out;omega) (by have:=C.out;omega),(U0.trans ae).Dz (by rw[cy.out];exact AY _) 0 _, ?_,pp.2, ?_,by have:=F.out;have:=C.out;omega⟩
   ·rw[hE,(fJ f4 f5).1];exact pp.1
   ·intro r z
    rcases BO.1 z with z | z
    ·exact H3 r (by rw[O];simp[z])
    ·rcases BO.1 z with z | z
     ·rw[BH.1 z];exact F.2.2.2.1
     ·exact H3 r (by rw[O];simp[z]))
  have E7:=ae.has E0 EX.1;have e0:=E7.cell 0;have ef:=E7.frozen;have ez:=E7.lt;clear a7 ae a8 a9 al q7 E7
  go_wp2_with fail
  refine JI (f:=47) (args:=#[.pointer (some ⟨R,0,none⟩)]) (by simp) (by simp[go_sem]) ?_;refine(Sj ⟨R,0,none⟩ _).mono ?_;rintro e u' dx ⟨rfl,rfl,rfl⟩;simp[Leaves,settle,results,mF,go_sem,ez,ef,e0];exact cl
 have dh:=Ac (show ∀ hl:i<x.its.length,¬ x.its[i].k=key from λhl e=>bt ⟨hl,e⟩);clear bt
 go_upto_region 9 with fail
 go_cut [59]from 31 to 58 (λdy wx=>dy = .bool false/\∃ nq,wx=w2.drewN nq)
 case first =>
  by_cases hz:i<cs.length
  ·have bh:(i:Int)<(cs.length:Int):=by omega
   have zc:decide ((i:Int)<(cs.length:Int))=true:=EW bh
   have ag:i<x.its.length:=by rw[<- o.2,BZ]at hz;exact hz
   obtain⟨m,Q⟩:∃ t,x.its[i]=t:=⟨_,rfl⟩
   have ah:cs[i]? = some (Af m):=by rw[<- o.2,GH,DK ag,Q];rfl
   have bi:=Z.ss
   have a1:m.k.length<=200/\m.r.length<=300:=by
    have q:=BP.sz DN (x:=x) (by simp) (i:=m) (by rw[<- Q];exact EI _);have q2:=q.1;unfold CO at q2;exact⟨q.2.1,by omega⟩
   have KO:=Ac (λW n=>((Il m a1.1 (by omega) (World.drewN W n)).mono (R':=λe w'=>e = .returned (.string (AQ m.k))/\w'=W.drewN n) (by rintro e w' ⟨rfl,rfl⟩;exact⟨rfl,rfl⟩)));obtain⟨CJ,ap⟩:∃ v,Af m=v:=⟨_,rfl⟩;rw[ap]at KO ah;obtain⟨gr,off,T,gl,lc⟩:=bi.2 (by omega);have aq:=lc i CJ ah
   obtain⟨ac,a2,a3,ds,dt,ho⟩:∃ ac a2,Has w2 gr 9 ac/\cs.length<=ac.size/\a2=a.2/\off=0:=by
    rcases Z.row.2 with⟨b,q2⟩ |⟨g',dl,bu,b,q2,q3,q4,q5,q6,q7⟩
    ·injection b with b q8;rw[b]at T;cases T
    ·injection b with b q8 q9
     rw[T]at b
     injection b with b
     injection b with b q10
     exact⟨bu,a.2,by rw[b];exact q3,by omega,rfl,q10⟩
   subst ho;have bj:ac[i]? = some (.string CJ):=(a3.cell i).symm.trans (by have:=lc i CJ ah;rwa [FM]at this);rw[FM]at aq;rw[T]at g3;have aj:¬ m.k=key:=λe=>dh ag (by rw[Q];exact e)
   have dz:((AQ m.k).toList == K.toList)=false:=by
    rw[<- HK.out,EL,EL,Cb,Cb,FK];exact aj
   obtain⟨KJ,d0⟩:∃ v,AQ m.k=v:=⟨_,rfl⟩;rw[d0]at dz KO
   go_wp2_with fail
   go_quiet ((go_at_call 51;refine nS (KO _ _)))
   go_wp2_with fail
   go_meet;exact⟨rfl,nq,rfl⟩
  ·have bh:¬ (i:Int)<(cs.length:Int):=by omega
   have zc:decide ((i:Int)<(cs.length:Int))=false:=EY (by omega)
   go_wp2_with fail
   go_quiet (fail)
   go_wp2_with fail
   go_meet;exact⟨rfl,nq,rfl⟩
 obtain⟨rfl,nq,rfl⟩:=hcut
 go_wp2_with fail
 have L:=PR (AU w2.heap.size w2) nq;have P3:=Ac (P2.below L);have M3:=Ac (M2.below L);have U3:=Ac (U2.next L);have a4:=Ac (bg.below L);have aa:=Ac (Z.below L);clear P2 M2 U2 bg Z g0 g1 g2 g3 g4 gz gf L;generalize w2.drewN nq=w3 at *;obtain⟨p0,p1,p2,p3,p4⟩:=aa.at5;have pz:=aa.hb.lt;obtain⟨E1,E2,P1,P2,hE,O,f1,f3,f4,f5,f6⟩:=Ut DN AK o.1 dh db;have I:=Ac (eH OK HS bc (F1:=P1.flatten) (q:=[]) (F2:=P2.flatten) (by rw[O];simp) F.2.2.1);have LP:=oO (j:=i) (it:=it) DN AB AK o.1 (AY i) NZ.1 NZ.2 F.1 bf.1 (F.2.1.sz (by rw[F.1];exact bf.1.2)) f6
 have PD:=Ac (AV (LP.1.congr (G':=S2.G) (λy d=>by
  rw[LP.2]at d
  exact I.g2 y (BL _ d))) LP.2)
 have cc:=Ac (AV hE (AV O (AV f1 (AV f3 (AV f4 f5)))))
 have ec:cs.length<=300:=by
  have h6:=LP.1.le;have h7:=Ih (x.its.take i++it :: x.its.drop i);have h8:Ak (x.its.take i++it :: x.its.drop i)<=1256:=h6;rw[A8,DF,CU,DJ]at h7;rw[<- o.2,BZ];omega
 have ci:i<=cs.length:=by rw[<- o.2,BZ,<- o.1];exact cnt_le _ _ _
 clear hE O f1 f3 f4 f5 f6 LP;refine DU0 ?_;refine Tf 12 (.pointer (some ⟨pb,D*5,none⟩)) (CQ (w3)) (fZ pb (D*5) i cs.length a.2 w3.heap.size a.1 CB) (by kernel_rfl) (by kernel_rfl) (by kernel_rfl) (by kernel_rfl) (by kernel_rfl) (by kernel_rfl) (λ_ _ U hb=>CQ.step U hb) ?hst (CQ.start _) (λ_ _ _ h=>h) ?d ?hp0 ?hops ?hend
 case d=>exact Or.inl ⟨by rfl,λw=>by(go_simp;first | done |(with_reducible rfl))⟩
 case hp0=>exact λ_=>rfl
 case hst=>exact SY0 _ _ _ _ _ _ _ _
 case hops =>
  intro us wx ba U;obtain⟨u0,u1,u2,u3,u4,u5,u6,u7,u8,u9,d1,d2,d3,rfl⟩:=uH us ba;clear ba;simp only[Bq,Act.put,DY,DZ,EP,EF,EH];refine⟨λh=>?_,λh=>?_,λh=>?_,λh=>?_,λh=>?_,λh=>?_,λh=>?_,λh=>?_,λh=>?_,λh=>?_,λh=>?_,λh=>?_,λh=>?_,trivial⟩
  ·(clear h;refine Ae rfl ?_;go_simp;exact⟨AU _ _,rfl⟩)
  ·(clear h;refine Ae rfl ?_;go_simp;exact⟨AU _ _,rfl⟩)
  ·obtain rfl:=h 1 rfl
   (clear h;refine Ae rfl ?_;go_simp;exact⟨AU _ _,rfl⟩)
  ·obtain rfl:=h 2 rfl
   (clear h;refine Ae rfl ?_;go_simp;exact⟨AU _ _,rfl⟩)
  ·obtain rfl:=h 3 rfl
   (clear h;refine Ae rfl ?_;go_simp;exact⟨AU _ _,rfl⟩)
  ·obtain rfl:=h 4 rfl
   (clear h;refine Ae rfl ?_;go_simp;exact⟨AU _ _,rfl⟩)
  ·obtain rfl:=h 5 rfl
   (clear h;refine Ae rfl ?_;obtain⟨hc,hf⟩:=U.facts;go_simp;exact⟨AU _ _,rfl⟩)
  ·(clear h;refine Ae rfl ?_;go_simp;exact⟨AU _ _,rfl⟩)
  ·obtain rfl:=h 7 rfl
   (clear h;refine Ae rfl ?_;go_simp;exact⟨AU _ _,rfl⟩)
  ·obtain rfl:=h 8 rfl
   (clear h;refine Ae rfl ?_;go_simp;exact⟨AU _ _,rfl⟩)
  ·obtain rfl:=h 9 rfl
   (clear h;refine Ae rfl ?_;obtain⟨hc,hf⟩:=U.facts;go_simp;exact⟨AU _ _,rfl⟩)
  ·(clear h;refine Ae rfl ?_;go_simp;exact⟨AU _ _,rfl⟩)
  ·obtain rfl:=h 11 rfl
   (clear h;refine Ae rfl ?_;go_simp;exact⟨(AU _ _).alloc (AY _) _,_,rfl,Has.new _ _ _,U.bel.size⟩)
 case hend =>
 intro us wx ba U;obtain⟨u0,u1,u2,u3,u4,u5,u6,u7,u8,u9,d1,d2,d3,rfl⟩:=uH us ba;clear ba;intro dm;obtain⟨h0,h1,h2,h3,h4,h5,h6,h7,h8,h9,d4,d5,d6,_⟩:=dm;obtain⟨gc,rfl,di,d7⟩:=d6;obtain rfl:=h0;obtain rfl:=h6;obtain rfl:=d4;have P4:=Ac (P3.below U.bel);have M4:=Ac (M3.below U.bel);have U4:=Ac (U3.next U.bel);have au:=Ac (a4.below U.bel);have J:=Ac (aa.below U.bel);have d8:=Ac (BM0 (i:=i) J.row ci di (λe=>by have:=(aa.row.lt gc e).2;omega) (by omega) (BR _));clear h1 h2 h3 h4 h5 h7 h8 h9 d5 U di d7 p0 p1 p2 p3 p4 pz P3 M3 U3 a4 aa;simp only[Bq,Act.put,DY,DZ,IC,GV,EP,EF,EH]
 go_wp2_with (go_at_call 53;(with_reducible refine d8.out.mono ?_);rintro en bo ⟨ej,rfl,bv,bw,ai⟩;obtain⟨am,an,rfl,ed⟩:=Bg bv;have dp:=Ac bv;have bx:=Ac bw;have cx:=Ac ai;have bp:=Ac (show Has bo pb 122 b6 from(bw.block pb J.hb.lt (λe=>(J.rx pb e.symm).2 rfl)).trans J.hb);clear bv bw ai;have pf:=bp.frozen;have pz:=bp.lt;have p3:bo.cell? ⟨pb,D*5+3,none⟩=some (.slice a.1 cs.length a.2):=(bp.cell _).trans J.c3)
 have a5:R+1<=wx.heap.size:=by have:=U4.size;have:=af.out;omega
 have cf:=EX.2;obtain⟨ad,br,cg,Y,a6⟩:=HL
 have aw:E8 key B x=⟨x.n,(1,hb,cs),i⟩:=by
  unfold E8 TR;rw[o.1,o.2,HB.out]
 have dj:=a6.trans (D8 some aw);have bz:=au.out;rw[<- Y]at bz
 have dk:∀ g,(Value.slice am (cs.length+1) an).ownBlock=some g->some g∉X2/\g≠pb:=λg H=>by
  rcases cx.out with e | e
  ·exact J.rx g (by rw[<- e];exact H)
  ·have e5:g=wx.heap.size:=CV (H.symm.trans e);exact⟨λhm=>by have:=P4.lt g hm;omega,by have:=J.hb.lt;omega⟩
 have ai:∀ g,(Value.slice am (cs.length+1) an).ownBlock=some g->(Value.slice a.1 cs.length a.2).ownBlock=some g\/wx.heap.size<=g:=λg H=>by
  rcases cx with e | e
  ·exact .inl (by rw[<- e];exact H)
  ·have e5:g=wx.heap.size:=CV (H.symm.trans e);exact .inr (by omega)
 have cq:D*5+3<b6.size:=by have:=HA.2.2;omega
 have ax:=J.put bp cq dp dk;have ay:=ZF (pb:=pb) (v':=.slice am (cs.length+1) an) (Turn.refl X2 wx) bx ai (D*5+3) (.slice am (cs.length+1) an);have cm:∀ g,(Value.slice a.1 cs.length a.2).ownBlock=some g->R+1<=g:=λg H=>(au.rows.lt a (F5 HA.1) g ((Ii (⟨x.n,(1,hb,cs),i⟩:Stp) a).symm.trans H)).1;have d9:R+1<=pb:=(au.own.lt pb rfl).1;have cn:TM (bo.setCell ⟨pb,D*5+3,none⟩ (.slice am (cs.length+1) an)) X2 tb p root:=(M4.grown bx (λe=>by have:=cm tb e.symm;omega)).set (by omega) _ _;have co:=(P4.grown bx (λg H=>(J.rx g H).1)).set J.nb (D*5+3) (.slice am (cs.length+1) an)
 have cp:Turn X X2 W0 (bo.setCell ⟨pb,D*5+3,none⟩ (.slice am (cs.length+1) an)):=U4.loc ay (λg H=>by
  have z0:=af.out
  rcases BI.1 H with e | H
  ·exact .inr (by have:g=pb:=CV e;omega)
  ·rcases BI.1 H with e | H
   ·exact .inr (by have:=cm g e.symm;omega)
   ·exact .inl H) (λg H=>BF _ (BF _ H))
 obtain⟨cells',bd⟩:∃ l,cs.take i++CB :: cs.drop i=l:=⟨_,rfl⟩
 have ea:cells'.length=cs.length+1:=by
  rw[<- bd,A8,CU,DF,DJ];omega
 rw[bd]at ax;rw[<- ea]at ax ay ai cn co cp ⊢;have b0:=J.out;rw[JA D 5]at b0 ax ay;have b1:=bz.back (j:=D) (n:=x.n) (kd:=1) (l:=hb) (i:=i) (cells:=cs) (A:=a.1) (c:=a.2) dj HA.1 rfl ax b0 ay ai a5;rw[Y,JA 5 D]at b1
 have cj:=Ac (Zj (w0:=W0) (X0:=X) (i:=i) (N:=D+1) (D:=D) co cn (by have:=C.out;omega) (by have:=C.out;omega) (by have:=C.out;have:=F.out;omega) (by omega) PD.1 (by rw[PD.2];exact I.n3.sublist ((Aa3 _ _).append (nN _))) (by
  rw[PD.2];intro y d
  rcases BO.1 d with d | d
  ·exact I.r3 y (BL _ (BL _ d))
  ·exact I.r3 y (BC _ d)) cp (by rw[af.out];exact b1) (by
  rw[ad,<- Y,<- MX,QU];rw[VK _ _ (by rw[Ci];omega),Ci,ad,I9]
  show Ig ups++[_]=Ig ups++[_]
  congr 2
  show(⟨x.n,(1,hb,cells'),i⟩:Stp)=⟨x.n,(1,hdN B 0,(x.its.take i++it :: x.its.drop i).map Af),i⟩
  rw[HB.out,<- bd,<- o.2,<- da.out,D9,DW,QX,MW]) ad (by rw[MX];exact Y) rfl (by have:=af.out;omega))
 clear a5 cf ad br cg Y a6 dj aw bz dk ai cq ax ay cm d9 cn co cp bd b0 b1;refine cj.mono ?_;rintro en w7 ⟨rfl,S7,x7,ck,X7,a7,ae,a8,a9,al,q7⟩
 have cl:=Ac (show Yw X w p S S0 root c k (Gl [x0] ao++P.flatten) (JZ key v E) (.int .i64 0) (.returned (.int .i64 0)) (w7.setCell ⟨R,0,none⟩ (.int .i64 0))from by
  obtain⟨hE,O,f1,f3,f4,f5⟩:=cc;rw[PD.2]at al;have em:Kz S2.G [it] [(key,v)] [ps]:=⟨F.1,F.2.1,trivial⟩
  have pp:=iI I al a8 (I1:=A.flatMap (·.its)++x.its.take i) (I2:=x.its.drop i++B.flatMap (·.its)) (M:=[it]) (a9.trans (by
   show(A++_ :: B).flatMap (·.its)=_
   rw[H5,IK];simp)) f1 f3 em (by simp)
  refine⟨rfl,S7,x7,ck,_,X7,(a7.set (ae.out EX.1 E0.lt) 0 _).more (by have:=C.out;omega) (by have:=C.out;omega),(U0.trans ae).Dz (by rw[cy.out];exact AY _) 0 _, ?_,pp.2, ?_,by have:=F.out;have:=C.out;omega⟩
  ·rw[hE,(WP f4 f5).1];exact pp.1
  ·intro r z
   rcases BO.1 z with z | z
   ·exact H3 r (by rw[O];simp[z])
   ·rcases BO.1 z with z | z
    ·rw[BH.1 z];exact F.2.2.2.1
    ·exact H3 r (by rw[O];simp[z]))
 have E7:=ae.has E0 EX.1;have e0:=E7.cell 0;have ef:=E7.frozen;have ez:=E7.lt;clear a7 ae a8 a9 al q7 E7
 go_wp2_with fail
 refine JI (f:=47) (args:=#[.pointer (some ⟨R,0,none⟩)]) (by simp) (by simp[go_sem]) ?_;refine(Sj ⟨R,0,none⟩ _).mono ?_;rintro e u' dx ⟨rfl,rfl,rfl⟩;simp[Leaves,settle,results,mF,go_sem,ez,ef,e0];exact cl
def delS (pb o n c:Nat) (i:Int) (A:Option Addr):Nat->Value->World->Prop
 | 0,v,_=>v = .pointer (some ⟨pb,o,none⟩)
 | 1,v,_=>v = .pointer (some ⟨pb,o,none⟩)
 | 2,v,_=>v = .pointer (some ⟨pb,o,none⟩)
 | 3,v,_=>v = .pointer (some ⟨pb,o,none⟩)
 | 4,v,_=>v = .pointer (some ⟨pb,o+1,none⟩)
 | 5,v,_=>v = .pointer (some ⟨pb,o+3,none⟩)
 | 6,v,_=>v = .slice A n c
 | 7,v,_=>v = .pointer (some ⟨pb,o,none⟩)
 | 8,v,_=>v = .pointer (some ⟨pb,o,none⟩)
 | 9,v,_=>v = .pointer (some ⟨pb,o+4,none⟩)
 | 10,v,_=>v = .int .i64 i
 | 11,v,_=>v = .pointer (some ⟨pb,o,none⟩)
 | 12,v,_=>v = .pointer (some ⟨pb,o,none⟩)
 | 13,v,_=>v = .pointer (some ⟨pb,o+4,none⟩)
 | 14,v,_=>v = .int .i64 i
 | 15,v,_=>v = .int .i64 (IntKind.i64.wrap (i+1))
 | _,_,_=>True
def UL0 (pb o n c:Nat) (i:Int) (A:Option Addr):∀ j v (w w':World),Below w.heap.size w w'->delS pb o n c i A j v w->delS pb o n c i A j v w'
 | 0,_,_,_,_,h=>h
 | 1,_,_,_,_,h=>h
 | 2,_,_,_,_,h=>h
 | 3,_,_,_,_,h=>h
 | 4,_,_,_,_,h=>h
 | 5,_,_,_,_,h=>h
 | 6,_,_,_,_,h=>h
 | 7,_,_,_,_,h=>h
 | 8,_,_,_,_,h=>h
 | 9,_,_,_,_,h=>h
 | 10,_,_,_,_,h=>h
 | 11,_,_,_,_,h=>h
 | 12,_,_,_,_,h=>h
 | 13,_,_,_,_,h=>h
 | 14,_,_,_,_,h=>h
 | 15,_,_,_,_,h=>h
 | _+16,_,_,_,_,_=>trivial
def TD0 {w:World} {X:List (Option Nat)} {tb p root c k:Nat} {S S0:St} {x0:Nd} {U:List (List Nd)} {E:List En} {P:List (List Nat)} {key:Ky} (h:PT w X p S S0 c k) (ht:TM w X tb p root) (hc:c+400<=60000) (hk:k<=600000000) (hq:S.q<=49000)
 (hs:Vp S root x0 U E P) (h3:∀ ps∈P,ps.length<=3) (a8:1<=key.length/\key.length<=200) :
 Calls Tryz.prog 13 #[.pointer (some ⟨tb,0,none⟩),.string (AQ key)] w (Yw X w p S S0 root c k (Gl [x0] U++P.flatten) (JP key E) (.tuple #[.bool (Em key E),.int .i64 0])):=by
 have dq:∀(fn:Fn) (first cap:Array Value) (w:World),(Instr.makeFunc fn first cap).run Tryz.prog w = .ok (.func fn first cap) w:=λ_ _ _ _=>rfl;have RI:=Ac (λW=>Ny (AQ key) (by rw[Bf];omega) W)
 have e1:decide (1<=(AQ key).size/\(AQ key).size<=200)=true:=by rw[Bf];exact EW a8
 rw[e1]at RI;have au:=h.ok;have b6:=aY hs.tre (λq hq=>by have:=hs.rng q (BL _ hq);exact⟨this.1,this.2.1⟩) (CZ.1 hs.nd).1 (by omega);have DS:=Ac (λW (h:PT W X p S S0 c k) (ht:TM W X tb p root)=>Su h ht (by omega) (by omega) hs.tre au.pg (λq hq=>by have:=hs.rng q (BL _ hq);exact⟨this.1,this.2.1⟩) (by omega) (by omega) key);have HP:=Ac h;have HT:=Ac ht;have HS:=Ac hs;have H3:=Ac h3;have OK:=Ac au;have z:=Ac (AV hc (AV hk (AV hq (AV b6 (AV ht.has.lt au.pos)))));obtain⟨K,hK⟩:∃ s,AQ key=s:=⟨_,rfl⟩;rw[hK]at RI DS ⊢;have HK:=Ac hK;clear h ht hs h3 a8 hc hk hq b6 e1 au hK
 go_enter_defers Tryz.func13,Tryz.ntmps13
 go_wp2_with (first |(go_at_call 48;refine(RI _).mono ?_;rintro e w1 ⟨rfl,rfl⟩))
 have B0:=Ag w (.cells #[.int .i64 0] 26);have P0:=HP.below B0;have M0:=HT.below B0;have E0:=Ac (Has.new w 26 #[.int .i64 0]);have EX:=Ac (show some w.heap.size∉X/\tb<w.heap.size from⟨λhm=>by have:=HP.lt _ hm;omega,HT.has.lt⟩);have U0:=Ac (Turn.below X B0);have Z0:(w.alloc (.cells #[.int .i64 0] 26)).heap.size=w.heap.size+1:=ED _ _;clear B0 HP HT;obtain⟨F,bh⟩:∃ n,w.heap.size=n:=⟨_,rfl⟩;have bi:=Ac bh;rw[bh]at E0 EX Z0 ⊢;generalize w.alloc (.cells #[.int .i64 0] 26)=W0 at *;have av:=Ac Z0;refine(DS W0 P0 M0).mono ?_;rintro en o ⟨A,x,B,ups,rs,X2,v1,dn,ab,ak,O,b7,rfl,bj,bk,al⟩;rw[Z0]at al;obtain⟨D,hD⟩:∃ n,U.length=n:=⟨_,rfl⟩;rw[hD]at O bj z
 have bl:(Ig ups++[E8 key B x]).length=D+1:=by rw[A8,Ci,O];rfl
 have s1:(Ig ups++[E8 key B x])[D]? = some (E8 key B x):=by rw[GU (by rw[Ci];omega),Ci,O,I9];rfl
 obtain⟨pb,cap,bm,a,rfl,ha,ca,bn,st⟩:=al.step s1;rw[bl]at al bn ⊢;rw[JA 5 D]at st;have cb:=Ac al;have cc:=Ac st;have P1:=Ac bj;have M1:=Ac (M0.turn bk);have U1:=Ac (bk);have DN:=Ac dn;have AB:=Ac ab;have AK:=Ac ak;have HL:=Ac (AV O (AV b7 (AV hD (AV bl s1))));have HA:=Ac (AV ha (AV ca bn));clear dn ab ak O b7 bj bk al bl s1 ha ca bn DS RI P0 M0 hD bh
 obtain⟨i,hi⟩:∃ n,cnt key false x.its=n:=⟨_,rfl⟩;obtain⟨cs,bo⟩:∃ l,x.its.map Af=l:=⟨_,rfl⟩;have es:(E8 key B x).pg.2.2=cs:=bo;have ei:(E8 key B x).i=i:=hi;have C:=Ac (AV hi bo);obtain⟨hb,bp⟩:∃ l,hdN B 0=l:=⟨_,rfl⟩
 have st:Nc o X2 pb (D*5) x.n 1 hb i cs.length a.2 a.1 bm cs:=by rw[<- es,<- ei,<- bp];exact cc
 have HB:=Ac bp;clear cc es ei hi bo bp
 have i1:(D:Int)<(D:Int)+1:=by omega
 have ds:D<=15:=z.2.2.2.1
 go_wp2_with fail
 have Q:=P1;have M2:=M1;have U2:=U1;have aw:=cb;have V:=Ac st;clear P1 M1 U1 cb st;obtain⟨g0,g1,g2,g3,g4⟩:=V.at5;have gz:=V.hb.lt;have gf:=V.hb.frozen;have a9:=HS.ent;have bq:=Xt (Ds:=[]) AB;have a7:=UL (Ds:=[]) AB;rw[HL.2.1]at bq a7;rw[bq]at a9;have br:=Ac a9;have ba:=Ac (show(Gl [x0] U).Perm (Fe (A++x :: B) [] ups)from a7);have NZ:=Ac (show(Fe (A++x :: B) [] ups).Nodup/\∀ p∈Fe (A++x :: B) [] ups,p≠0 from⟨ba.nodup_iff.1 (CZ.1 HS.nd).1,λp hp=>by have:=(HS.rng p (BL _ (ba.mem_iff.2 hp))).1;omega⟩);clear a9 bq a7
 have ci:i<=cs.length:=by rw[<- C.2,BZ,<- C.1];exact cnt_le _ _ _
 by_cases hz:i<cs.length
 ·have dt:(i:Int)<(cs.length:Int):=by omega
  have zc:((i:Int) == (cs.length:Int))=false:=by rw[FK];omega
  have bs:i<x.its.length:=by rw[<- C.2,BZ]at hz;exact hz
  obtain⟨R,ac⟩:∃ t,x.its[i]=t:=⟨_,rfl⟩
  have ax:cs[i]? = some (Af R):=by rw[<- C.2,GH,DK bs,ac];rfl
  have bt:=V.ss
  have bu:R.k.length<=200/\R.r.length<=300:=by
   have q:=BP.sz DN (x:=x) (by simp) (i:=R) (by rw[<- ac];exact EI _);have q2:=q.1;unfold CO at q2;exact⟨q.2.1,by omega⟩
  have KO:=Ac (λW n=>((Il R bu.1 (by omega) (World.drewN W n)).mono (R':=λe w'=>e = .returned (.string (AQ R.k))/\w'=W.drewN n) (by rintro e w' ⟨rfl,rfl⟩;exact⟨rfl,rfl⟩)));obtain⟨CJ,ay⟩:∃ v,Af R=v:=⟨_,rfl⟩;rw[ay]at ax;obtain⟨gr,off,ar,gl,lc⟩:=bt.2 (by omega);have am:=lc i CJ ax
  obtain⟨az,cd,a0,du,dv,ho⟩:∃ az cd,Has o gr 9 az/\cs.length<=az.size/\cd=a.2/\off=0:=by
   rcases V.row.2 with⟨H,q2⟩ |⟨g',dl,cw,H,q2,q3,q4,q5,q6,q7⟩
   ·injection H with H q8;rw[H]at ar;cases ar
   ·injection H with H q8 q9
    rw[ar]at H
    injection H with H
    injection H with H q10
    exact⟨cw,a.2,by rw[H];exact q3,by omega,rfl,q10⟩
  subst ho;have bv:az[i]? = some (.string CJ):=(a0.cell i).symm.trans (by have:=lc i CJ ax;rwa [FM]at this);rw[FM]at am;rw[ar]at g3;rw[ay]at KO;by_cases ag:R.k=key
  ·rw [ag,HK.out] at KO;go_quiet ((go_at_call 51;refine nS (KO _ _)))
   go_wp2_with fail
   have d:=PR (AU o.heap.size o) nq;have P3:=Ac (Q.out.below d);have M3:=Ac (M2.out.below d);have I:=Ac (U2.out.next d);have ce:=Ac (aw.out.below d);have a1:=Ac (V.below d);have bw:=Ac (a0.Ai d);clear Q M2 U2 aw V g0 g1 g2 g3 g4 gz gf d am lc a0 bt KO gl;generalize o.drewN nq=w3 at *;obtain⟨g0,g1,g2,g3,g4⟩:=a1.at5;rw[ar]at g3;have gz:=a1.hb.lt;have am:=(bw.cell i).trans bv;have gl:=bw.lt;obtain⟨E1,u,E2,P1,q,Q,hE,Y,f1,f2,f3,f4,f5⟩:=aH DN AK C.1 bs (by rw[ac];exact ag) br;rw[ac]at f2;have ad:=Ac (eH OK HS ba (F1:=P1.flatten) (q:=q) (F2:=Q.flatten) (by rw[Y];simp) (Mv.refl S []));have q3:q.length<=3:=H3 q (by rw[Y];simp);have LP:=KL1 DN AB NZ.1 NZ.2 i
   have PD:=Ac (AV (LP.1.congr (G':=(Bl S q).G) (λy T=>by
    rw[LP.2]at T
    rw[ad.g3 y (by simp[T])])) LP.2)
   have dm:cs.length<=300:=by
    have h8:Ak (x.its.take i++x.its.drop (i+1))<=1256:=LP.1.le;have h7:=Ih (x.its.take i++x.its.drop (i+1));rw[A8,CU,DJ]at h7;rw[<- C.2,BZ];omega
   have B4:=(AU w3.heap.size w3).drew;have P4:=Ac (P3.below B4);have M4:=Ac (M3.below B4);have U4:=Ac (I.next B4);have cf:=Ac (ce.below B4);have cg:=Ac (a1.below B4);have RS:=Ac (DJ0 P4 M4 (by have:=z.out;omega) (by have:=z.out;omega) bu.1 f2 q3 ad.qn ad.qr);rw[ay]at RS;have c0:=Ac (AV hE (AV Y (AV f1 (AV f3 (AV f4 f5)))));clear P3 M3 I ce a1 bw B4 hE Y f1 f2 f3 f4 f5 LP q3 ac ag ay bv bu ax
   go_still_tail 13,(by kernel_rfl)
   change wpList _ _ _ _ _ w3.drew;clear ar
   go_wp2_with (go_at_call 52;(with_reducible refine RS.out.mono ?_);rintro en w4 ⟨rfl,X4,ch,an⟩;have P5:=Ac ch;have M5:=Ac (M4.turn an);have U5:=Ac (U4.trans an);have cj:=Ac (cf.turn an);have a2:=Ac (cg.turn an);clear ch an P4 M4 U4 cf cg RS g0 g1 g2 g3 g4 gz am gl;obtain⟨p0,p1,p2,p3,p4⟩:=a2.at5;have pz:=a2.hb.lt)
   refine DU0 ?_;refine Tf 15 (.pointer (some ⟨pb,D*5,none⟩)) (CQ (w4)) (delS pb (D*5) cs.length a.2 (i:Int) a.1) (by kernel_rfl) (by kernel_rfl) (by kernel_rfl) (by kernel_rfl) (by kernel_rfl) (by kernel_rfl) (λ_ _ J hb=>CQ.step J hb) ?hst (CQ.start _) (λ_ _ _ h=>h) ?T ?hp0 ?hops ?hend
   case T=>exact Or.inl ⟨by rfl,λw=>by(go_simp;first | done |(with_reducible rfl))⟩
   case hp0=>exact λ_=>rfl
   case hst=>exact UL0 _ _ _ _ _ _
   case hops =>
    intro us wx ao J;obtain⟨u0,u1,u2,u3,u4,u5,u6,u7,u8,u9,c1,c2,c4,c5,c6,ck,rfl⟩:=uF us ao;clear ao;simp only[Bq,Act.put,DY,DZ,EP,EF,EH];refine⟨λh=>?_,λh=>?_,λh=>?_,λh=>?_,λh=>?_,λh=>?_,λh=>?_,λh=>?_,λh=>?_,λh=>?_,λh=>?_,λh=>?_,λh=>?_,λh=>?_,λh=>?_,λh=>?_,trivial⟩
    ·(clear h;refine Ae rfl ?_;go_simp;exact⟨AU _ _,rfl⟩)
    ·(clear h;refine Ae rfl ?_;go_simp;exact⟨AU _ _,rfl⟩)
    ·obtain rfl:=h 1 rfl
     (clear h;refine Ae rfl ?_;go_simp;exact⟨AU _ _,rfl⟩)
    ·obtain rfl:=h 2 rfl
     (clear h;refine Ae rfl ?_;go_simp;exact⟨AU _ _,rfl⟩)
    ·obtain rfl:=h 3 rfl
     (clear h;refine Ae rfl ?_;go_simp;exact⟨AU _ _,rfl⟩)
    ·obtain rfl:=h 4 rfl
     (clear h;refine Ae rfl ?_;go_simp;exact⟨AU _ _,rfl⟩)
    ·obtain rfl:=h 5 rfl
     (clear h;refine Ae rfl ?_;obtain⟨hc,hf⟩:=J.facts;go_simp;exact⟨AU _ _,rfl⟩)
    ·(clear h;refine Ae rfl ?_;go_simp;exact⟨AU _ _,rfl⟩)
    ·obtain rfl:=h 7 rfl
     (clear h;refine Ae rfl ?_;go_simp;exact⟨AU _ _,rfl⟩)
    ·obtain rfl:=h 8 rfl
     (clear h;refine Ae rfl ?_;go_simp;exact⟨AU _ _,rfl⟩)
    ·obtain rfl:=h 9 rfl
     (clear h;refine Ae rfl ?_;obtain⟨hc,hf⟩:=J.facts;go_simp;exact⟨AU _ _,rfl⟩)
    ·(clear h;refine Ae rfl ?_;go_simp;exact⟨AU _ _,rfl⟩)
    ·obtain rfl:=h 11 rfl
     (clear h;refine Ae rfl ?_;go_simp;exact⟨AU _ _,rfl⟩)
    ·obtain rfl:=h 12 rfl
     (clear h;refine Ae rfl ?_;go_simp;exact⟨AU _ _,rfl⟩)
    ·obtain rfl:=h 13 rfl
     (clear h;refine Ae rfl ?_;obtain⟨hc,hf⟩:=J.facts;go_simp;exact⟨AU _ _,rfl⟩)
    ·obtain rfl:=h 14 rfl
     (clear h;refine Ae rfl ?_;go_simp;exact⟨AU _ _,rfl⟩)
   case hend =>
   intro us wx ao J;obtain⟨u0,u1,u2,u3,u4,u5,u6,u7,u8,u9,c1,c2,c4,c5,c6,ck,rfl⟩:=uF us ao;clear ao;intro cx;obtain⟨h0,h1,h2,h3,h4,h5,h6,h7,h8,h9,c7,c8,c9,da,db,cl,_⟩:=cx;obtain rfl:=h0;obtain rfl:=h6;obtain rfl:=c7;have wi:IntKind.i64.wrap ((i:Int)+1)=(i:Int)+1:=JL _ ⟨by omega,by omega⟩;have cy:ck = .int .i64 ((i:Int)+1):=Eq.trans cl (by rw[wi]);clear cl wi;obtain rfl:=cy;have P6:=Ac (P5.below J.bel);have M6:=Ac (M5.below J.bel);have U6:=Ac (U5.next J.bel);have bx:=Ac (cj.below J.bel);have L:=Ac (a2.below J.bel);have dc:=Ac (AZ0 (i:=i) L.row hz (by omega) rfl rfl);clear h1 h2 h3 h4 h5 h7 h8 h9 c8 c9 da db J p0 p1 p2 p3 p4 pz P5 M5 U5 cj a2;simp only[Bq,Act.put,DY,DZ,IC,GV,EP,EF,EH]
   go_wp2_with (go_at_call 56;(with_reducible refine dc.out.mono ?_);rintro en a3 ⟨dw,rfl,bb,bc,aa⟩;obtain⟨ae,af,rfl,dp⟩:=Bg bb;have cz:=Ac bb;have bd:=Ac bc;have b8:=Ac aa;have a4:=Ac (show Has a3 pb 122 bm from(bc.block pb L.hb.lt (λe=>(L.rx pb e.symm).2 rfl)).trans L.hb);clear bb bc aa;have pf:=a4.frozen;have pz:=a4.lt;have p3:a3.cell? ⟨pb,D*5+3,none⟩=some (.slice a.1 cs.length a.2):=(a4.cell _).trans L.c3)
   have cm:F+1<=wx.heap.size:=by have:=U6.size;have:=av.out;omega
   have dd:=EX.2;obtain⟨a5,cv,de,ah,cn⟩:=HL
   have b9:E8 key B x=⟨x.n,(1,hb,cs),i⟩:=by
    unfold E8 TR;rw[C.1,C.2,HB.out]
   have co:=cn.trans (D8 some b9);have be:=bx.out;rw[<- ah]at be
   have cp:∀ g,(Value.slice ae (cs.length-1) af).ownBlock=some g->some g∉X4/\g≠pb:=λg b=>by
    rcases b8.out with e | e
    ·exact L.rx g (by rw[<- e];exact b)
    ·have e5:g=wx.heap.size:=CV (b.symm.trans e);exact⟨λhm=>by have:=P6.lt g hm;omega,by have:=L.hb.lt;omega⟩
   have aa:∀ g,(Value.slice ae (cs.length-1) af).ownBlock=some g->(Value.slice a.1 cs.length a.2).ownBlock=some g\/wx.heap.size<=g:=λg b=>by
    rcases b8 with e | e
    ·exact .inl (by rw[<- e];exact b)
    ·have e5:g=wx.heap.size:=CV (b.symm.trans e);exact .inr (by omega)
   have b5:D*5+3<bm.size:=by have:=HA.2.2;omega
   have ai:=L.put a4 b5 cz cp;have aj:=ZF (pb:=pb) (v':=.slice ae (cs.length-1) af) (Turn.refl X4 wx) bd aa (D*5+3) (.slice ae (cs.length-1) af);have bz:∀ g,(Value.slice a.1 cs.length a.2).ownBlock=some g->F+1<=g:=λg b=>(bx.rows.lt a (F5 HA.1) g ((Ii (⟨x.n,(1,hb,cs),i⟩:Stp) a).symm.trans b)).1;have df:F+1<=pb:=(bx.own.lt pb rfl).1;have b0:TM (a3.setCell ⟨pb,D*5+3,none⟩ (.slice ae (cs.length-1) af)) X4 tb p root:=(M6.grown bd (λe=>by have:=bz tb e.symm;omega)).set (by omega) _ _;have b1:=(P6.grown bd (λg b=>(L.rx g b).1)).set L.nb (D*5+3) (.slice ae (cs.length-1) af)
   have b2:Turn X X4 W0 (a3.setCell ⟨pb,D*5+3,none⟩ (.slice ae (cs.length-1) af)):=U6.loc aj (λg b=>by
    have z0:=av.out
    rcases BI.1 b with e | b
    ·exact .inr (by have:g=pb:=CV e;omega)
    ·rcases BI.1 b with e | b
     ·exact .inr (by have:=bz g e.symm;omega)
     ·exact .inl b) (λg b=>BF _ (BF _ b))
   obtain⟨cells',aq⟩:∃ l,cs.take i++cs.drop (i+1)=l:=⟨_,rfl⟩
   have dg:cells'.length=cs.length-1:=by
    rw[<- aq,A8,CU,DJ];omega
   rw[aq]at ai;rw[<- dg]at ai aj aa b0 b1 b2 ⊢;have bf:=L.out;rw[JA D 5]at bf ai aj;have bg:=be.back (j:=D) (n:=x.n) (kd:=1) (l:=hb) (i:=i) (cells:=cs) (A:=a.1) (c:=a.2) co HA.1 rfl ai bf aj aa cm;rw[ah,JA 5 D]at bg
   have dh:=Ac (Zj (w0:=W0) (X0:=X) (i:=i) (N:=D+1) (D:=D) b1 b0 (by have:=z.out;omega) (by have:=z.out;omega) (by have:=z.out;have:=Jf q S;omega) (by omega) PD.1 (by rw[PD.2];exact ad.n3.sublist ((Aa3 _ _).append (nN _))) (by
    rw[PD.2];intro y T
    rcases BO.1 T with T | T
    ·exact ad.r3 y (BL _ (BL _ T))
    ·exact ad.r3 y (BC _ T)) b2 (by rw[av.out];exact bg) (by
    rw[a5,<- ah,<- MX,QU];rw[VK _ _ (by rw[Ci];omega),Ci,a5,I9]
    show Ig ups++[_]=Ig ups++[_]
    congr 2
    show(⟨x.n,(1,hb,cells'),i⟩:Stp)=⟨x.n,(1,hdN B 0,(x.its.take i++x.its.drop (i+1)).map Af),i⟩
    rw[HB.out,<- aq,<- C.2,D9,QX,MW]) a5 (by rw[MX];exact ah) rfl (by have:=av.out;omega))
   clear cm dd a5 cv de ah cn co b9 be cp aa b5 ai aj bz df b0 b1 b2 aq bf bg;refine dh.mono ?_;rintro en w7 ⟨rfl,S7,x7,di,X7,cq,a6,cr,ct,b3,q7⟩
   have ap:=Ac (show Yw X w p S S0 root c k (Gl [x0] U++P.flatten) (JP key E) (.tuple #[.bool (Em key E),.int .i64 0]) (.returned (.tuple #[.bool true,.int .i64 0])) (w7.setCell ⟨F,0,none⟩ (.int .i64 0))from by
    obtain⟨hE,Y,f1,f3,f4,f5⟩:=c0;rw[PD.2]at b3;have em:Kz S.G [] [] []:=trivial
    have pp:=iI ad b3 cr (I1:=A.flatMap (·.its)++x.its.take i) (I2:=x.its.drop (i+1)++B.flatMap (·.its)) (M:=[]) (ct.trans (by
     show(A++_ :: B).flatMap (·.its)=_
     rw[H5,IK];simp)) f1 f3 em rfl
    have dx:=Jf q S;have ho:=fJ (v:=[]) (u:=u) f4 f5;rw[<- hE]at ho;refine⟨by rw[ho.2.1],S7,x7,di,_,X7,(cq.set (a6.out EX.1 E0.lt) 0 _).more (by have:=z.out;omega) (by have:=z.out;omega),(U0.trans a6).Dz (by rw[bi.out];exact AY _) 0 _, ?_,pp.2, ?_,by have:=z.out;omega⟩
    ·rw[ho.2.2.1];exact pp.1
    ·intro r Z
     rcases BO.1 Z with Z | Z
     ·exact H3 r (by rw[Y];simp[Z])
     ·rcases BO.1 Z with Z | Z
      ·cases Z
      ·exact H3 r (by rw[Y];simp[Z]))
   have m:=a6.has E0 EX.1;have e0:=m.cell 0;have ef:=m.frozen;have ez:=m.lt;clear cq a6 cr ct b3 q7 m
   go_wp2_with fail
   refine JI (f:=55) (args:=#[.pointer (some ⟨F,0,none⟩)]) (by simp) (by simp[go_sem]) ?_;refine(Lu ⟨F,0,none⟩ _).mono ?_;rintro e u' cu ⟨rfl,rfl,rfl⟩;simp[Leaves,settle,results,mD,go_sem,ez,ef,e0];exact ap
  have dj:((AQ R.k).toList == K.toList)=false:=by
   rw[<- HK.out,EL,EL,Cb,Cb,FK];exact ag
  obtain⟨KJ,dk⟩:∃ v,AQ R.k=v:=⟨_,rfl⟩;rw[dk]at dj KO;go_quiet ((go_at_call 51;refine nS (KO _ _)));have b4:=Ac (show ∀ O:i<x.its.length,¬ x.its[i].k=key from λO=>by rw[ac];exact ag)
  clear am lc a0 bt KO gl bv ar;have d:=PR (AU o.heap.size o) nq;have P3:=Q.out.below d;have I:=U2.out.next d;have m:=I.has E0 EX.1
  have ap:=Ac (show Yw X w p S S0 root c k (Gl [x0] U++P.flatten) (JP key E) (.tuple #[.bool (Em key E),.int .i64 0]) (.returned (.tuple #[.bool false,.int .i64 0])) ((o.drewN nq).setCell ⟨F,0,none⟩ (.int .i64 0))from by
   obtain⟨E1,E2,P1,Q,hE,Y,f1,f3,f4,f5,f6⟩:=Ut DN AK C.1 b4 br;have hn:=WP (v:=[]) f4 f5;rw[<- hE]at hn;refine⟨by rw[hn.2.1],S,x0,U,P,X2,(P3.set (I.out EX.1 E0.lt) 0 _).more (by omega) (by have:=z.out;omega),(U0.trans I).Dz (by rw[bi.out];exact AY _) 0 _, ?_,Mv.refl _ _,H3,by omega⟩
   rw[hn.2.2];exact HS)
  have e0:=m.cell 0;have ef:=m.frozen;have ez:=m.lt;clear Q M2 U2 aw V g0 g1 g2 g3 g4 gz gf d P3 I m;generalize o.drewN nq=w3 at *
  go_wp2_with fail
  refine JI (f:=55) (args:=#[.pointer (some ⟨F,0,none⟩)]) (by simp) (by simp[go_sem]) ?_;refine(Lu ⟨F,0,none⟩ _).mono ?_;rintro e u' cu ⟨rfl,rfl,rfl⟩;simp[Leaves,settle,results,mD,go_sem,ez,ef,e0];exact ap
 have zc:((i:Int) == (cs.length:Int))=true:=by rw[OG];omega
 go_quiet (fail);have b4:=Ac (show ∀ O:i<x.its.length,¬ x.its[i].k=key from λO=>absurd (by rw[<- C.2,BZ];exact O) hz)
 have d:=PR (AU o.heap.size o) nq;have P3:=Q.out.below d;have I:=U2.out.next d;have m:=I.has E0 EX.1
 have ap:=Ac (show Yw X w p S S0 root c k (Gl [x0] U++P.flatten) (JP key E) (.tuple #[.bool (Em key E),.int .i64 0]) (.returned (.tuple #[.bool false,.int .i64 0])) ((o.drewN nq).setCell ⟨F,0,none⟩ (.int .i64 0))from by
  obtain⟨E1,E2,P1,Q,hE,Y,f1,f3,f4,f5,f6⟩:=Ut DN AK C.1 b4 br;have hn:=WP (v:=[]) f4 f5;rw[<- hE]at hn;refine⟨by rw[hn.2.1],S,x0,U,P,X2,(P3.set (I.out EX.1 E0.lt) 0 _).more (by omega) (by have:=z.out;omega),(U0.trans I).Dz (by rw[bi.out];exact AY _) 0 _, ?_,Mv.refl _ _,H3,by omega⟩
  rw[hn.2.2];exact HS)
 have e0:=m.cell 0;have ef:=m.frozen;have ez:=m.lt;clear Q M2 U2 aw V g0 g1 g2 g3 g4 gz gf d P3 I m;generalize o.drewN nq=w3 at *
 go_wp2_with fail
 refine JI (f:=55) (args:=#[.pointer (some ⟨F,0,none⟩)]) (by simp) (by simp[go_sem]) ?_;refine(Lu ⟨F,0,none⟩ _).mono ?_;rintro e u' cu ⟨rfl,rfl,rfl⟩;simp[Leaves,settle,results,mD,go_sem,ez,ef,e0];exact ap
end Go.Proofs.YtjihboddejaelaaGreat
namespace Go.Proofs.YtjihboddejaelaaGreat
open Go.RowKit Go.BigFrame
def JG(k:Ky)(E:List En):Ky:=if Em k E then V6 k E else []
def Tj {w:World} {X:List (Option Nat)} {g p root c k:Nat} {S i:St} {it:It} {v:Ky} {ps:List Nat} (h:PT w X p S i c k) (j:TM w X g p root) (l:c<=60000) (m:k+ps.length<=800000000) (f:it.k.length<=200) (n:I7 S.G it v ps) (o:∀ x∈ps,0<x/\x<S.q) :
 Calls Tryz.prog 111 #[.pointer (some ⟨g,0,none⟩),.string (Af it)] w (Gw X w p S i c (k+ps.length) (.string (AQ v))):=by
 obtain⟨key,r⟩:=it
 rcases n with⟨a,b,rfl⟩ |⟨a,b,s,d,e⟩
 ·dsimp only at a;subst a;refine(EL0 f (by dsimp only at b;omega)).mono ?_;rintro t w' ⟨rfl,rfl⟩;exact⟨rfl,X,h,Turn.refl _ _⟩
 ·dsimp only at a;subst a;exact JG0 h j l m f s e o d
def KC1 {w:World} {X:List (Option Nat)} {tb p root c k:Nat} {S J:St} {x0:Nd} {ax:List (List Nd)} {E:List En} {P:List (List Nat)} {key:Ky} (h:PT w X p S J c k) (Z:TM w X tb p root) (hc:c+400<=60000) (hk:k<=600000000) (L:S.q<=49000)
 (C:Vp S root x0 ax E P) (h3:∀ ps∈P,ps.length<=3) (ad:1<=key.length/\key.length<=200) :
 Calls Tryz.prog 101 #[.pointer (some ⟨tb,0,none⟩),.string (AQ key)] w (Gw X w p S J c (k+30) (.tuple #[.string (AQ (JG key E)),.bool (Em key E),.int .i64 0])):=by
 have bc:∀(fn:Fn) (first cap:Array Value) (w:World),(Instr.makeFunc fn first cap).run Tryz.prog w = .ok (.func fn first cap) w:=λ_ _ _ _=>rfl;have RI:=Ac (λW=>Ny (AQ key) (by rw[Bf];omega) W)
 have e1:decide (1<=(AQ key).size/\(AQ key).size<=200)=true:=by rw[Bf];exact EW ad
 rw[e1]at RI;have aa:=h.ok;have av:=aY C.tre (λq L=>by have:=C.rng q (BL _ L);exact⟨this.1,this.2.1⟩) (CZ.1 C.nd).1 (by omega);have DS:=Ac (λW (h:PT W X p S J c k) (Z:TM W X tb p root)=>Su h Z (by omega) (by omega) C.tre aa.pg (λq L=>by have:=C.rng q (BL _ L);exact⟨this.1,this.2.1⟩) (by omega) (by omega) key);have HP:=Ac h;have HT:=Ac Z;have HS:=Ac C;have H3:=Ac h3;have z:=Ac (AV hc (AV hk (AV L (AV av (AV Z.has.lt aa.pos)))));obtain⟨K,hK⟩:∃ s,AQ key=s:=⟨_,rfl⟩;rw[hK]at RI DS ⊢;have HK:=Ac hK;clear h Z C h3 ad hc hk L av e1 aa hK
 go_enter_defers Tryz.func101,Tryz.ntmps101
 go_wp2_with (first |(go_at_call 48;refine(RI _).mono ?_;rintro e w1 ⟨rfl,rfl⟩))
 have B0:=Ag w (.cells #[.int .i64 0] 26);have P0:=HP.below B0;have M0:=HT.below B0;have F:=Ac (Has.new w 26 #[.int .i64 0]);have G:=Ac (show some w.heap.size∉X/\tb<w.heap.size from⟨λhm=>by have:=HP.lt _ hm;omega,HT.has.lt⟩);have U0:=Ac (Turn.below X B0);have Z0:(w.alloc (.cells #[.int .i64 0] 26)).heap.size=w.heap.size+1:=ED _ _;clear B0 HP HT;obtain⟨d,af⟩:∃ n,w.heap.size=n:=⟨_,rfl⟩;have ag:=Ac af;rw[af]at F G Z0 ⊢;generalize w.alloc (.cells #[.int .i64 0] 26)=W0 at *;have a7:=Ac Z0;refine(DS W0 P0 M0).mono ?_;rintro en w2 ⟨A,x,B,ups,rs,X2,v1,dn,ab,ak,g,aw,rfl,ah,ai,R⟩;rw[Z0]at R;obtain⟨D,hD⟩:∃ n,ax.length=n:=⟨_,rfl⟩;rw[hD]at g ah z
 have aj:(Ig ups++[E8 key B x]).length=D+1:=by rw[A8,Ci,g];rfl
 have s1:(Ig ups++[E8 key B x])[D]? = some (E8 key B x):=by rw[GU (by rw[Ci];omega),Ci,g,I9];rfl
 obtain⟨pb,cap,a8,a,rfl,ha,ay,al,st⟩:=R.step s1;rw[aj]at R al ⊢;rw[JA 5 D]at st;have az:=Ac st;have P1:=Ac ah;have M1:=Ac (M0.turn ai);have U1:=Ac (ai);have DN:=Ac dn;have AB:=Ac ab;have AK:=Ac ak;have HL:=Ac (AV g (AV aw (AV hD (AV aj s1))));clear dn ab ak g aw ah ai R aj s1 ha ay al DS RI P0 M0 hD af
 obtain⟨i,hi⟩:∃ n,cnt key false x.its=n:=⟨_,rfl⟩;obtain⟨cs,am⟩:∃ l,x.its.map Af=l:=⟨_,rfl⟩;have es:(E8 key B x).pg.2.2=cs:=am;have ei:(E8 key B x).i=i:=hi;have m:=Ac (AV hi am);obtain⟨hb,an⟩:∃ l,hdN B 0=l:=⟨_,rfl⟩
 have st:Nc w2 X2 pb (D*5) x.n 1 hb i cs.length a.2 a.1 a8 cs:=by rw[<- es,<- ei,<- an];exact az
 clear az es ei hi am an
 have i1:(D:Int)<(D:Int)+1:=by omega
 have be:D<=15:=z.2.2.2.1;obtain⟨g0,g1,g2,g3,g4⟩:=st.at5;have gz:=st.hb.lt;have gf:=st.hb.frozen
 go_upto_region 6 with fail
 have o:=Has.new w2 122 #[.int .i64 x.n,.int .i64 1,.int .i64 hb,.slice a.1 cs.length a.2,.int .i64 i];have B3:=Ag w2 (.cells #[.int .i64 x.n,.int .i64 1,.int .i64 hb,.slice a.1 cs.length a.2,.int .i64 i] 122);have P3:=Ac (P1.below B3);have M3:=Ac (M1.below B3);have H:=Ac (U1.next B3);have ba:=Ac (st.ss.keep B3);obtain⟨xb,a0⟩:∃ n,w2.heap.size=n:=⟨_,rfl⟩
 have XB:=Ac (show xb≠d from by have:=U1.size;have:=a7.out;omega);rw[a0]at o ⊢;clear P1 M1 U1 st g0 g1 g2 g3 g4 gz gf B3 a0;generalize w2.alloc (.cells #[.int .i64 x.n,.int .i64 1,.int .i64 hb,.slice a.1 cs.length a.2,.int .i64 i] 122)=W3 at *;have g0:=o.cell 0;have g1:=o.cell 1;have g2:=o.cell 2;have g3:=o.cell 3;have g4:=o.cell 4;have gz:=o.lt;clear o;have ae:=HS.ent;have ao:=Xt (Ds:=[]) AB;rw[HL.2.1]at ao;rw[ao]at ae;have ap:=Ac ae;clear ae ao
 have ci:i<=cs.length:=by rw[<- m.2,BZ,<- m.1];exact cnt_le _ _ _
 by_cases hz:i<cs.length
 ·have bf:(i:Int)<(cs.length:Int):=by omega
  have zc:((i:Int) == (cs.length:Int))=false:=by rw[FK];omega
  have a1:i<x.its.length:=by rw[<- m.2,BZ]at hz;exact hz
  obtain⟨j,T⟩:∃ t,x.its[i]=t:=⟨_,rfl⟩
  have aq:cs[i]? = some (Af j):=by rw[<- m.2,GH,DK a1,T];rfl
  have ac:j.k.length<=200/\j.r.length<=300:=by
   have q:=BP.sz DN (x:=x) (by simp) (i:=j) (by rw[<- T];exact EI _);have q2:=q.1;unfold CO at q2;exact⟨q.2.1,by omega⟩
  have M:=Ac (λW=>Il j ac.1 (by omega) W);obtain⟨gr,off,ar,gl,lc⟩:=ba.2 (by omega);have a2:=lc i _ aq;by_cases I:j.k=key
  ·obtain ⟨E1,u,E2,P1,q,P2,N,hP,f1,f2,f3,O,Q⟩:=aH DN AK m.1 a1 (by rw [T];exact I) ap;rw[T]at f2;have q3:q.length<=3:=H3 q (by rw[hP];simp);have ho:=fJ (v:=[]) (u:=u) O Q;rw[<- N]at ho;have VA:=Ac (Tj P3 M3 (by have:=z.out;omega) (by have:=z.out;omega) ac.1 f2 (λy hy=>by have:=HS.rng y (BC _ (by rw[hP];simp[hy]));exact⟨this.1,this.2.1⟩));have EG:=Ac (show JG key E=u/\Em key E=true from by unfold JG;rw[ho.2.1,AC rfl,ho.2.2.2];exact⟨rfl,rfl⟩);have Q3:=Ac q3;rw[I,HK.out]at M;obtain⟨CJ,U⟩:∃ v,Af j=v:=⟨_,rfl⟩;rw[U]at a2 M VA;obtain⟨V,hV⟩:∃ v,AQ u=v:=⟨_,rfl⟩;have HV:=Ac hV;rw[hV]at VA;rw[ar]at g3;clear lc aq ac I U N hP f1 f2 f3 O Q ho q3 hV ar
   go_wp2_with (first
    |(go_at_call 51;refine(M _).mono ?_;rintro e w1 ⟨rfl,rfl⟩)
    |(go_at_call 111;(with_reducible refine VA.out.mono ?_);rintro en w4 ⟨rfl,X4,a3,a4⟩;have P4:=Ac a3;have U4:=Ac (H.trans a4);have b:=U4.has F G.1;have e0:=b.cell 0;have ef:=b.frozen;have ez:=b.lt;clear a3 a4 b))
   have Y:=Ac (show Gw X w p S J c (k+30) (.tuple #[.string (AQ (JG key E)),.bool (Em key E),.int .i64 0]) (.returned (.tuple #[.string V,.bool true,.int .i64 0])) (w4.setCell ⟨d,0,none⟩ (.int .i64 0)) from
    ⟨by rw[EG.1,EG.2,HV.out],X4,(P4.set (U4.out.out G.1 F.lt) 0 _).more (by omega) (by have:=Q3.out;have:=z.out;omega),(U0.trans U4).Dz (by rw[ag.out];exact AY _) 0 _⟩)
   refine JI (f:=178) (args:=#[.pointer (some ⟨d,0,none⟩)]) (by simp) (by simp[go_sem]) ?_;refine(Sm ⟨d,0,none⟩ _).mono ?_;rintro e u' a5 ⟨rfl,rfl,rfl⟩;simp[Leaves,settle,results,mG,go_sem,ez,ef,e0];exact Y
  ·have bb:((AQ j.k).toList == K.toList)=false:=by
    rw[<- HK.out,EL,EL,Cb,Cb,FK];exact I
   obtain⟨KJ,a6⟩:∃ v,AQ j.k=v:=⟨_,rfl⟩;rw[a6]at bb M;obtain⟨CJ,U⟩:∃ v,Af j=v:=⟨_,rfl⟩;rw[U]at a2 M;rw[ar]at g3;have au:=Ac (show ∀ g:i<x.its.length,¬ x.its[i].k=key from λg=>by rw[T];exact I);clear lc aq ac I U ar a6
   have Y:=Ac (show Gw X w p S J c (k+30) (.tuple #[.string (AQ (JG key E)),.bool (Em key E),.int .i64 0]) (.returned (.tuple #[.string ⟨#[]⟩,.bool false,.int .i64 0])) (W3.setCell ⟨d,0,none⟩ (.int .i64 0))from by
    obtain⟨E1,E2,P1,P2,N,hP,f1,f3,O,Q,f6⟩:=Ut DN AK m.1 au ap;have hn:=WP (v:=[]) O Q;rw[<- N]at hn
    refine⟨by unfold JG;rw[hn.2.1];rfl,X2,(P3.set (H.out.out G.1 F.lt) 0 _).more (by omega) (by have:=z.out;omega),(U0.trans H).Dz (by rw[ag.out];exact AY _) 0 _⟩)
   have b:=H.has F G.1;have e0:=b.cell 0;have ef:=b.frozen;have ez:=b.lt
   go_wp2_with (first |(go_at_call 51;refine(M _).mono ?_;rintro e w1 ⟨rfl,rfl⟩))
   refine JI (f:=178) (args:=#[.pointer (some ⟨d,0,none⟩)]) (by simp) (by simp[go_sem]) ?_;refine(Sm ⟨d,0,none⟩ _).mono ?_;rintro e u' a5 ⟨rfl,rfl,rfl⟩;simp[Leaves,settle,results,mG,go_sem,ez,ef,e0];exact Y
 ·have zc:((i:Int) == (cs.length:Int))=true:=by rw [OG];omega
  have au:=Ac (show ∀ g:i<x.its.length,¬ x.its[i].k=key from λg=>absurd (by rw[<- m.2,BZ];exact g) hz)
  have Y:=Ac (show Gw X w p S J c (k+30) (.tuple #[.string (AQ (JG key E)),.bool (Em key E),.int .i64 0]) (.returned (.tuple #[.string ⟨#[]⟩,.bool false,.int .i64 0])) (W3.setCell ⟨d,0,none⟩ (.int .i64 0))from by
   obtain⟨E1,E2,P1,P2,N,hP,f1,f3,O,Q,f6⟩:=Ut DN AK m.1 au ap;have hn:=WP (v:=[]) O Q;rw[<- N]at hn
   refine⟨by unfold JG;rw[hn.2.1];rfl,X2,(P3.set (H.out.out G.1 F.lt) 0 _).more (by omega) (by have:=z.out;omega),(U0.trans H).Dz (by rw[ag.out];exact AY _) 0 _⟩)
  have b:=H.has F G.1;have e0:=b.cell 0;have ef:=b.frozen;have ez:=b.lt
  go_wp2_with fail
  refine JI (f:=178) (args:=#[.pointer (some ⟨d,0,none⟩)]) (by simp) (by simp[go_sem]) ?_;refine(Sm ⟨d,0,none⟩ _).mono ?_;rintro e u' a5 ⟨rfl,rfl,rfl⟩;simp[Leaves,settle,results,mG,go_sem,ez,ef,e0];exact Y
end Go.Proofs.YtjihboddejaelaaGreat
