/-
  Checkpoint of package wal: the whole.
-/
import Derived.Test.YtjihboddejaelaaGreatTm8
import Derived.Test.YtjihboddejaelaaGreatTm7
import Derived.Test.YtjihboddejaelaaGreatTm4
import Derived.Test.YtjihboddejaelaaGreatTm6
import Derived.Lib.Builder
import Derived.Test.YtjihboddejaelaaGreatTm1
import Derived.Test.YtjihboddejaelaaGreatTm5
set_option linter.unusedVariables false
set_option linter.unusedSimpArgs false
set_option linter.defProp false
set_option maxRecDepth 100000
set_option maxHeartbeats 100000000
namespace Go.Proofs.YtjihboddejaelaaGreat
open Go.RowKit Go.BigFrame Go.Maps
theorem DB1(w:World):(Instr.makeMap 104 none).run Tryz.prog w = .ok (.map (some w.heap.size)) (w.alloc (.map #[] 0)):=rfl
def FG1(R:Rw)(m:Nat):R.Vg m={ R with D:=(R.Vg m).D }:=by
 unfold Rw.Vg
 split
 ·rfl
 ·split <;> rfl
structure MM (R:Rw) (m:Nat) (M:Rw):Prop where
 le:m<=R.np
 goes:Rw.puts R.np 0 R=Rw.puts (R.np-m) m M
 same:M={ R with D:=M.D }
 fit:Fit M.D (70000-min m 65537)
def MM.start{R:Rw}(h:Fit R.D 70000):MM R 0 R:=⟨BR _,rfl,rfl,h.less (by omega)⟩
def MM.next{R M:Rw}{m:Nat}(h:MM R m M)(a:m<R.np)(b:M.Qk m=0):MM R (m+1) (M.Vg m):=by
 refine⟨a, ?_, ?_,KP1 h.fit⟩
 ·rw[h.goes,show R.np-m=(R.np-(m+1))+1 by omega,Rw.puts,AC b]
 ·have c:=h.same;have d:=FG1 M m;generalize M.Vg m=X at *;rw[d,c]
def MM.stop{R M:Rw}{m:Nat}(h:MM R m M)(b:m<R.np)(a:M.Qk m≠0):Rw.puts R.np 0 R=(M.Vg m,M.Qk m):=by
 rw[h.goes,show R.np-m=(R.np-(m+1))+1 by omega,Rw.puts,AO a]
def MM.last{R M:Rw}{m:Nat}(h:MM R m M)(a:m=R.np):Rw.puts R.np 0 R=(M,0):=by
 rw[h.goes,show R.np-m=0 by omega,Rw.puts]
def WO(w:World)(b:List (Option Nat))(gd g m1 m2 N:Nat)(M:Rw)(wr:World):Prop :=
 ∃ b',LR wr b' gd g m1 m2 M/\Has wr N 97 #[.pointer (some ⟨g,0,none⟩)]/\some N∉b'++lb g m1 m2/\Turn (b++lb g m1 m2) (b'++lb g m1 m2) w wr
def WO.disk {w wr w':World} {b b' a:List (Option Nat)} {gd g m1 m2 N:Nat} {M:Rw} {c:Dk} (i:LR wr b' gd g m1 m2 M) (d:Has wr N 97 #[.pointer (some ⟨g,0,none⟩)]) (e:some N∉b'++lb g m1 m2) (j:Turn (b++lb g m1 m2) (b'++lb g m1 m2) w wr)
 (k:DP w' a gd c) (f:Turn b' a wr w'):WO w b gd g m1 m2 N { M with D:=c } w':=by
 obtain⟨l,h⟩:=i.PN k f;exact⟨a,l,d.turn f (λm=>e (BL _ m)),h.not d.lt e,j.trans h⟩
def KE0 (b:List (Option Nat)) (gd g m1 m2:Nat) (R:Rw) (w:World) (h:LR w b gd g m1 m2 R) (aa:Fit R.D 70000) (hs:R.slot<2) (au:R.number<4) (hp:R.np<=4294967296) (an:∀ x,R.f1 x<=1000000) :
 Calls Tryz.prog 99 #[.pointer (some ⟨g,0,none⟩)] w (XJ w b gd g m1 m2 R.Ah.1 (.int .i64 R.Ah.2)):=by
 have d:=Ac (show Has (w.alloc (.cells #[.pointer (some ⟨g,0,none⟩)] 97)) w.heap.size 97 #[.pointer (some ⟨g,0,none⟩)]/\Below w.heap.size w (w.alloc (.cells #[.pointer (some ⟨g,0,none⟩)] 97))from⟨Has.new _ _ _,(AU _ _).alloc (AY _) _⟩);have HL:=Ac h;have NB:=Ac (show some w.heap.size∉b++lb g m1 m2 from λF=>by have:=h.lt F;omega);by_cases s:R.nf≠R.kf
 ·have G:R.Ah=(R,11):=AC s;rw[G]
  have t1:((R.nf:Int) != (R.kf:Int))=true:=by rw[OE];omega
  clear h aa;go_enter Tryz.func99,Tryz.ntmps99
  go_upto_region 1 with fail
  generalize w.alloc (.cells #[.pointer (some ⟨g,0,none⟩)] 97)=W at *;have f:=Ac (HL.below d.2);have x0:=d.1.cell 0;obtain⟨z1,z2,z3⟩:=f.now;obtain⟨H,I,J⟩:=f.old;have gz:=f.has.lt;have n:=(AU W.heap.size W).drew;have q:=Ac (f.below n)
  go_region
  go_wp2_with fail
  go_ret;exact⟨rfl,b,m1,m2,q,(Turn.below _ d.2).trans (Turn.below _ n)⟩
 ·have ao:R.nf=R.kf:=FC s
  have t1:((R.nf:Int) != (R.kf:Int))=false:=by rw[QS];omega
  by_cases F:R.nf=0
  ·have G:R.Ah=(R,0):=(AO s).trans (AC F);rw[G]
   have t2:((R.nf:Int) == 0)=true:=by simp;exact F
   clear h aa s;go_enter Tryz.func99,Tryz.ntmps99
   go_upto_region 1 with fail
   generalize w.alloc (.cells #[.pointer (some ⟨g,0,none⟩)] 97)=W at *;have f:=Ac (HL.below d.2);have x0:=d.1.cell 0;obtain⟨z1,z2,z3⟩:=f.now;obtain⟨H,I,J⟩:=f.old;have gz:=f.has.lt;have n:=(AU W.heap.size W).drew;have q:=Ac (f.below n)
   go_region
   have XQ:=Ac (d.1.Ai n);have q0:=XQ.cell 0;obtain⟨q1,q2,q3⟩:=q.now;have qz:=q.has.lt
   go_wp2_with fail
   go_ret;exact⟨rfl,b,m1,m2,q,(Turn.below _ d.2).trans (Turn.below _ n)⟩
  ·have t2:((R.nf:Int) == 0)=false:=by rw [FK];omega
   have EC:=Ac (show R.Ah=if(Rw.puts R.np 0 R).2≠0 then Rw.puts R.np 0 R else(Rw.puts R.np 0 R).1.Gs from(AO s).trans (AO F));have HF:=Ac aa;have av:=Ac an;have HP:=Ac hp;clear h aa s an hp ao F;go_enter Tryz.func99,Tryz.ntmps99
   go_upto_region 1 with fail
   generalize w.alloc (.cells #[.pointer (some ⟨g,0,none⟩)] 97)=W at *;have f:=Ac (HL.below d.2);have x0:=d.1.cell 0;obtain⟨z1,z2,z3⟩:=f.now;obtain⟨H,I,J⟩:=f.old;have gz:=f.has.lt;have n:=(AU W.heap.size W).drew;have q:=Ac (f.below n)
   go_region
   have XQ:=Ac (d.1.Ai n);have TQ:=Ac ((Turn.below (b++lb g m1 m2) d.2).trans (Turn.below _ n));have q0:=XQ.cell 0;obtain⟨q1,q2,q3⟩:=q.now;have qz:=q.has.lt;clear f x0 z1 z2 z3 H I J gz d n
   go_wp2_with fail
   go_loopw [29] (λae wr=>∃(m:Nat) (M:Rw),ae = .int .i64 m/\MM R m M/\WO w b gd g m1 m2 w.heap.size M wr) (λae _=>R.np-(intOf ae).toNat)
   case atStart=>exact⟨0,R,rfl,MM.start HF,b,q,XQ,NB,TQ⟩
   case round =>
    obtain⟨m,M,rfl,hM,b',i,l,t,u⟩:=hrel;have a:=Ac hM;have j:=Ac i;have K:=Ac l;have HO:=Ac t;have L:=Ac u;clear hM i l t u q XQ TQ q0 q1 q2 q3 qz HL NB;have y0:=K.cell 0;obtain⟨z1,z2,z3⟩:=j.now;have x0:=j.cell0;have gz:=j.has.lt;by_cases v:m<R.np
    ·have F1:=Ac (show M.f1=R.f1 by rw [a.same])
     have mi:(m:Int)<(R.np:Int):=by omega
     have ac:=Ac j.map1;have WN:=Ac (KU (x:=(m:Int)) (by omega) (by have:=HP.out;omega));have mw:wrap64 ((m:Int)*1024)=(m:Int)*1024:=YJ _ (by have:=HP.out;omega)
     have mb:m<=4294967296:=by have:=HP.out;omega
     by_cases y:M.f1 m=0
     ·have o:=Ac (a.next v (AC y));have G:M.Vg m=M:=AC y;rw[G]at o;have z:=Ac y;clear y G
      go_wp2_with (at_lookup;refine Ec _ rfl _ _ rfl m1 M.nf M.f1 rfl ac (m:Int) rfl WN ?_;rw[z.out])
      go_roundw
      case rel=>exact⟨m+1,M,by simp,o,b',j,K,HO,L⟩
      case measure=>simp[intOf];omega
     ·have af:=av m;rw[<- F1.out]at af;have RD:=Ac (qX b' gd g m1 m2 M m wr j a.fit.ok af);have aw:=PO0 a.fit.ok (R:=M) m;have N:=Ac (show M.Qk m=if M.Dy m≠0 then M.Dy m else M.D.Ji 0 (m*1024:Nat) (M.Fa m)from AO y);have O:=Ac (show M.Vg m=if M.Dy m≠0 then M else{ M with D:=M.D.write 0 (m*1024:Nat) (M.Fa m) }from AO y);have WT:=Ac (Xy gd M.D b' 0 (m*1024:Nat) (M.Fa m) wr j.disk a.fit.ok (by have:=a.fit.count;omega) (by have:=a.fit.waits;omega) (by omega))
      obtain⟨S,hS⟩:∃ S,M.Fa m=S:=⟨_,rfl⟩;obtain⟨E1,ag⟩:∃ E,M.Dy m=E:=⟨_,rfl⟩;rw[hS,ag]at RD;rw[hS,ag]at N O;rw[hS]at WT;obtain⟨E2,ah⟩:∃ E,M.D.Ji 0 (m*1024:Nat) S=E:=⟨_,rfl⟩;obtain⟨D',ai⟩:∃ E,M.D.write 0 (m*1024:Nat) S=E:=⟨_,rfl⟩;rw[ah]at N;rw[ai]at O;rw[ah,ai,nP]at WT;rw[show((1024:Nat):Int)=1024 from rfl]at WT;obtain⟨k,aj⟩:∃ k,M.f1 m=k:=⟨_,rfl⟩;have z:=Ac aj;rw[aj]at y af
      have k0:((k:Int) == 0)=false:=by rw[FK];omega
      clear hS ag ah ai aj y aw;by_cases r:E1=0
      ·subst r;have B:=Ac (show M.Qk m=E2 from N.trans (AO (λh=>h rfl)));have ab:=Ac (show M.Vg m={ M with D:=D' }from O.trans (AO (λh=>h rfl)));clear N O;by_cases P:E2=0
       ·subst P;have o:=Ac (a.next v B);rw[ab.out]at o
        go_wp2_with (first |(at_lookup;refine Ec _ rfl _ _ rfl m1 M.nf M.f1 rfl ac (m:Int) rfl WN ?_;rw[z.out]) |(go_at_call 123;refine(RD).mono ?_;rintro e w1 ⟨rfl,rfl⟩) |(go_at_call 172;(with_reducible refine WT.out.mono ?_);rintro e c ⟨rfl,A,X,Y⟩;have ak:=Ac (WO.disk j K HO L X Y);clear X Y))
        go_roundw
        case rel=>exact⟨m+1,_,by simp,o,ak⟩
        case measure=>simp[intOf];omega
       ·have o:=Ac (a.stop v (by rw [B.out];exact P));rw[ab.out,B.out]at o
        go_wp2_with (first |(at_lookup;refine Ec _ rfl _ _ rfl m1 M.nf M.f1 rfl ac (m:Int) rfl WN ?_;rw[z.out]) |(go_at_call 123;refine(RD).mono ?_;rintro e w1 ⟨rfl,rfl⟩) |(go_at_call 172;(with_reducible refine WT.out.mono ?_);rintro e c ⟨rfl,A,X,Y⟩;have ak:=Ac (WO.disk j K HO L X Y);clear X Y))
        go_ret;rw[EC.out,o.out,AC P];obtain⟨b3,q1,_,_,q4⟩:=ak;exact⟨rfl,b3,m1,m2,q1,q4⟩
      ·have B:=Ac (show M.Qk m=E1 from N.trans (AC r));have ab:=Ac (show M.Vg m=M from O.trans (AC r));have o:=Ac (a.stop v (by rw[B.out];exact r));rw[ab.out,B.out]at o;clear N O
       go_wp2_with (first |(at_lookup;refine Ec _ rfl _ _ rfl m1 M.nf M.f1 rfl ac (m:Int) rfl WN ?_;rw[z.out]) |(go_at_call 123;refine(RD).mono ?_;rintro e w1 ⟨rfl,rfl⟩))
       go_ret;rw[EC.out,o.out,AC r];exact⟨rfl,b',m1,m2,j,L⟩
    ·have ap:m=R.np:=by have:=a.le;omega
     have R1:=Ac (show R.Ah=M.Gs by rw[EC.out,a.last ap,AO (λh=>h rfl)])
     have np:M.np=R.np:=by rw[a.same]
     have CH:=Ac (JW0 b' b gd g m1 m2 w.heap.size M w wr j (a.fit.less (by omega)) (by rw[a.same];exact hs) (by rw[a.same];exact au) (by rw[np];exact HP) K HO L);have r0:M.Gs=if(upTo (Et M M.np) 3).2=0 then({ Vm M M.np (upTo (Et M M.np) 3).1 with nf:=0,np:=(Vm M M.np (upTo (Et M M.np) 3).1).kp,f1:=λ_=>0,kf:=0,kp:=(Vm M M.np (upTo (Et M M.np) 3).1).kp,f2:=λ_=>0 },0)else(Vm M M.np (upTo (Et M M.np) 3).1,(upTo (Et M M.np) 3).2):=rfl;obtain⟨E,hE⟩:∃ E,(upTo (Et M M.np) 3).2=E:=⟨_,rfl⟩;obtain⟨C,hC⟩:∃ C,Vm M M.np (upTo (Et M M.np) 3).1=C:=⟨_,rfl⟩;rw[hE,hC]at r0 CH;rw[r0]at R1
     have mi:¬((m:Int)<(R.np:Int)):=by omega
     clear hE hC r0 np v ap;by_cases aq:E=0
     ·subst aq;have ax:=DB1
      go_wp2_with ((go_at_call 116;refine CH.mono ?_);rintro e c ⟨rfl,hH⟩;obtain⟨A,i,l,t,u⟩:=hH;have Z:=Ac i;have ar:=Ac (Jv l);have al:=Ac u;have ad:=Ac (t (w.heap.size,97,#[.pointer (some ⟨g,0,none⟩)]) (by simp[Wl]));have y1:=(Jv l).cell 0;have yl:=(Jv l).lt;obtain⟨H,I,J⟩:=i.old;have zf:=i.has.frozen;have zz:=i.has.lt;clear i l t u)
      clear a j K HO L y0 z1 z2 z3 x0 gz CH;have hz:=Z.has.lt;have EQ:=Ac (show(((c.alloc (.map #[] 0)).setCell ⟨g,4,none⟩ (.int .i64 0)).setCell ⟨g,5,none⟩ (.int .i64 C.kp)).setCell ⟨g,6,none⟩ (.map (some c.heap.size))=(((c.setCell ⟨g,4,none⟩ (.int .i64 0)).setCell ⟨g,5,none⟩ (.int .i64 C.kp)).setCell ⟨g,6,none⟩ (.map (some c.heap.size))).alloc (.map #[] 0)by simp[go_sem,hz]);have CP:=Ac (λm' w1 (s:MP w1 m' 0 (λ_=>0))=>Ug m' 0 C.kp 0 (λ_=>0) w1 (by omega) s);rw[show((0:Nat):Int)=0 from rfl]at CP
      go_region
      all_goals
       have ba:=(AU c.heap.size c).alloc (AY _) (.map #[] 0);obtain⟨h5,t5⟩:=(Z.below ba).GN1 (Turn.below (A++lb g m1 m2) ba) (MP.made c) (λr=>by have:=Z.lt r;omega) (AY _) C.kp
       have x5:=((((ar.alloc (.map #[] 0)).far (p:=⟨g,4,none⟩) (λe=>ad (by rw[e];exact BC _ (Ht.2 (.inl rfl)))) (.int .i64 0)).far (p:=⟨g,5,none⟩) (λe=>ad (by rw[e];exact BC _ (Ht.2 (.inl rfl)))) (.int .i64 C.kp)).far (p:=⟨g,6,none⟩) (λe=>ad (by rw[e];exact BC _ (Ht.2 (.inl rfl)))) (.map (some c.heap.size)))
       rw[show((0:Nat):Int)=0 from rfl,EQ.out]at h5 t5;rw[EQ.out]at x5;have z:=Ac h5;have TK:=Ac t5;have XK:=Ac x5;clear h5 t5 x5 ba EQ ax H I J zf zz y1 yl hz;generalize (((c.setCell ⟨g,4,none⟩ (.int .i64 0)).setCell ⟨g,5,none⟩ (.int .i64 C.kp)).setCell ⟨g,6,none⟩ (.map (some c.heap.size))).alloc (.map #[] 0)=V at *;have HU:=Ac (z.below (AU _ _).drew);have XU:=Ac (XK.Ai (AU _ _).drew);have TU:=Ac (TK.trans (Turn.below _ (AU _ _).drew));clear z XK TK;generalize V.drew=U at *;have y0:=XU.cell 0;have Q:=Ac (HU.below (AU _ _).drew);have YD:=Ac (XU.Ai (AU _ _).drew);obtain⟨q4,q5,q6⟩:=HU.old;dsimp only at q4 q5 q6;rw[show((0:Nat):Int)=0 from rfl]at q4
       obtain⟨q1,q2,q3⟩:=HU.now;have qz:=HU.has.lt;have qf:=HU.has.frozen
       go_wp2_with fail
       go_region_with ((go_at_call 115;refine(CP _ _ Q.map2).mono ?_);rintro e w3 ⟨m',rfl,v,am,T⟩;have a:=Ac v;have d:=Ac am;have HB:=Ac T;have c1:=(Q.below T).now;have y1:=(Q.below T).has.lt;have yf:=(Q.below T).has.frozen;have yl:=(YD.Ai T).cell 0;clear v am T;obtain⟨c1,c2,c3⟩:=c1)
       all_goals
        go_wp2_with fail
        go_ret;have H3:=Q.below HB;have hv:Turn (A++lb g m1 c.heap.size) (A++lb g m1 c.heap.size) U U.drew:=Turn.below _ (AU _ _).drew;obtain⟨P,t4⟩:=H3.xM (hv.trans (Turn.below _ HB)) a (λr=>by have:=Q.lt r;have:=d.out;omega) d C.kp;rw[show((0:Nat):Int)=0 from rfl]at P t4;rw[R1.out]
        first | rw[AC rfl] | rw[AC trivial]
        exact⟨rfl,A,m',c.heap.size,P,(al.trans TU).trans t4⟩
     ·go_wp2_with ((go_at_call 116;refine CH.mono ?_);rintro e c ⟨rfl,hH⟩;obtain ⟨A,i,l,t,u⟩:=hH;have Z:=Ac i;have al:=Ac u;have y1:=(Jv l).cell 0;have yl:=(Jv l).lt;obtain ⟨H,I,J⟩:=i.old;have zf:=i.has.frozen;have zz:=i.has.lt;clear i l t u)
      go_ret;rw[R1.out,AO aq];exact⟨rfl,A,m1,m2,Z,al⟩
end Go.Proofs.YtjihboddejaelaaGreat
namespace Go.Proofs.YtjihboddejaelaaGreat
open Go.RowKit Go.BigFrame
def WF(g e h t:Nat)(P:Pl):Array Value:=#[Cc g,.int .i64 P.most,Cc e,.map (some h),.int .i64 P.pages,.int .i64 P.free,.map (some t),.int .i64 P.hits,.int .i64 P.misses,.int .i64 P.spills]
def Dl:List Nat->List Pf->Int->Option Nat
 | a :: A,f :: F,x=>if(f.n:Int)=x then some a else Dl A F x
 | _,_,_=>none
def Pj(T:List Nat)(x:Int):Option Nat:=if ∃ n∈T,(n:Int)=x then some 1 else none
def pb(p e h t:Nat)(A:List Nat):List (Option Nat):=(p :: e :: h :: t :: A).map some
def allB(b:List (Option Nat))(g m1 m2 p e h t:Nat)(A:List Nat):List (Option Nat):=(b++lb g m1 m2)++pb p e h t A
def Fb{p e h t k:Nat}{A:List Nat}:some k∈pb p e h t A↔k=p\/k=h\/k=t\/k∈e :: A:=by
 unfold pb;simp only[DI,BI,XW,exists_eq_right];constructor
 ·rintro(h | h | h | h | h) <;> simp[h]
 ·rintro(h | h | h | h | h) <;> simp[h]
structure PM (w:World) (b:List (Option Nat)) (gd g m1 m2 p e h t:Nat) (A:List Nat) (P:Pl):Prop where
 log:LR w b gd g m1 m2 P.L.rw
 has:Has w p 106 (WF g e h t P)
 ring:Ring w e A P.ring
 held:GM Nj w h (Dl A P.ring) P.ring.length
 turned:GM (plainElem Tryz.prog 3) w t (Pj P.turned) P.turned.length
 hp:p∉e :: A
 ht:h≠t
 off:QO (b++lb g m1 m2) (pb p e h t A)
structure Pl.ok (P:Pl):Prop where
 log:P.L.ok
 names:(P.ring.map (·.n)).Nodup
 pages:∀ f∈P.ring,f.n<P.pages
 size:∀ f∈P.ring,f.s.size=1024
 most:P.most<=64
 full:P.ring.length<=P.most
 few:P.pages<=65536
 link:P.free<=2147483647
 turnd:P.turned.Nodup
 turns:∀ x∈P.turned,x<P.pages
def Jp:∀ {A:List Nat} {F:List Pf} {x:Int},(∀ f∈F,(f.n:Int)≠x)->Dl A F x=none
 | [],_,_,_=>by cases ‹List Pf› <;> rfl
 | _ :: _,[],_,_=>rfl
 | a :: A,f :: F,x,h=>by
   rw[Dl,AO (h f (AZ ..))];exact Jp λg b=>h g (BF _ b)
def Kt:∀ {A1 A2:List Nat} {F1 F2:List Pf} {x:Int},A1.length=F1.length->Dl (A1++A2) (F1++F2) x=(Dl A1 F1 x).or (Dl A2 F2 x)
 | [],A2,[],F2,x,_=>by simp[Dl]
 | a :: A1,A2,f :: F1,F2,x,h=>by
   rw[F7,F7,Dl,Dl];by_cases b:(f.n:Int)=x
   ·rw[AC b,AC b];rfl
   ·rw[AO b,AO b];exact Kt (by simpa using h)
 | [],_,_ :: _,_,_,h=>by simp at h
 | _ :: _,_,[],_,_,h=>by simp at h
def Fz{F1 F2:List Pf}{f:Pf}(h:((F1++f :: F2).map (·.n)).Nodup):(∀ g∈F1,(g.n:Int)≠(f.n:Int))/\(∀ g∈F2,(g.n:Int)≠(f.n:Int))/\((F1++F2).map (·.n)).Nodup:=by
 rw[D9,DW,CZ,FP]at h;obtain⟨c,⟨d,i⟩,b⟩:=h;refine⟨λg a e=>?_,λg a e=>?_, ?_⟩
 ·exact b g.n (DI.2 ⟨g,a,rfl⟩) f.n (AZ ..) (by omega)
 ·exact d (DI.2 ⟨g,a,by omega⟩)
 ·rw [D9,CZ];exact⟨c,i,λx j y k=>b x j y (BF _ k)⟩
def aU{A1 A2:List Nat}{a:Nat}{F1 F2:List Pf}{f:Pf}(h:((F1++f :: F2).map (·.n)).Nodup)(b:A1.length=F1.length):Dl (A1++a :: A2) (F1++f :: F2) f.n=some a:=by
 rw[Kt b,Jp (Fz h).1,Dl,AC rfl];rfl
def ZS0 {A1 A2:List Nat} {a:Nat} {F1 F2:List Pf} {f:Pf} (h:((F1++f :: F2).map (·.n)).Nodup) (b:A1.length=F1.length) (x:Int) :
 Dl (A1++A2) (F1++F2) x=if x=f.n then none else Dl (A1++a :: A2) (F1++f :: F2) x:=by
 obtain⟨d,g,_⟩:=Fz h;by_cases c:x=f.n
 ·subst c;rw[AC rfl,Kt b,Jp d,Jp g];rfl
 ·rw [AO c,Kt b,Kt b]
  congr 1
  rw[Dl,AO (λe=>c e.symm)]
def VL0 {A:List Nat} {a:Nat} {F:List Pf} {f:Pf} (c:A.length=F.length) (h:∀ g∈F,(g.n:Int)≠(f.n:Int)) (x:Int) :
 Dl (A++[a]) (F++[f]) x=if x=f.n then some a else Dl A F x:=by
 rw[Kt c];by_cases b:x=f.n
 ·subst b;rw[AC rfl,Jp h];simp[Dl]
 ·rw [AO b]
  have:Dl [a] [f] x=none:=by rw[Dl,AO (λe=>b e.symm)];rfl
  rw[this]
  cases Dl A F x <;> rfl
def Uj{F1 F2:List Pf}{f:Pf}(h:((F1++f :: F2).map (·.n)).Nodup):Ns f.n (F1++f :: F2)=F1++F2:=by
 obtain⟨b,c,_⟩:=Fz h;unfold Ns;rw[OT,OQ,AO (by simp)]
 congr 1
 ·exact dI.2 λg a=>by have:=b g a;simp;omega
 ·exact dI.2 λg a=>by have:=c g a;simp;omega
def DS1{F:List Pf}(h:∀ f∈F,f.pins≠0):idle F=none:=dH.2 λf a=>by simpa using h f a
def OD1{F1 F2:List Pf}{f:Pf}(h:∀ g∈F1,g.pins≠0)(a:f.pins=0):idle (F1++f :: F2)=some f:=by
 unfold idle;rw[List.find?_append,dH.2 (λg b=>by simpa using h g b),List.find?_cons];simp[a]
def OJ1{F1 F2:List Pf}{f:Pf}{x:Int}(h:∀ g∈F1,(g.n:Int)≠x)(a:(f.n:Int)=x):NQ x (F1++f :: F2)=some f:=by
 unfold NQ;rw[List.find?_append,dH.2 (λg b=>by simpa using h g b),List.find?_cons];simp[a]
def kX{F:List Pf}{x:Int}{f:Pf}(h:NQ x F=some f):∃ F1 F2,F=F1++f :: F2/\(f.n:Int)=x/\∀ g∈F1,(g.n:Int)≠x:=by
 unfold NQ at h;obtain⟨a,F1,F2,b,c⟩:=List.find?_eq_some_iff_append.1 h;exact⟨F1,F2,b,by simpa using a,λg d=>by simpa using c g d⟩
def aX{F:List Pf}{x:Int}(h:NQ x F=none):∀ f∈F,(f.n:Int)≠x:=λf a=>by
 have:=dH.1 h f a;simpa using this
section
variable {w w':World} {b b':List (Option Nat)} {gd g m1 m2 m1' m2' p e h t:Nat} {A A1 A2:List Nat} {a:Nat} {P:Pl}
def PM.dS(H:PM w b gd g m1 m2 p e h t A P):∀ k,some k∈pb p e h t A->k<w.heap.size:=λk a=>by
 rcases Fb.1 a with rfl | rfl | rfl | a
 ·exact H.has.lt
 ·exact H.held.lt
 ·exact H.turned.lt
 ·exact H.ring.lt k a
def PM.lt(H:PM w b gd g m1 m2 p e h t A P):∀ k,some k∈allB b g m1 m2 p e h t A->k<w.heap.size:=λk a=>by
 rcases BO.1 a with a | a
 ·exact H.log.lt a
 ·exact H.dS k a
def PM.below(H:PM w b gd g m1 m2 p e h t A P)(a:Below w.heap.size w w'):PM w' b gd g m1 m2 p e h t A P :=
 ⟨H.log.below a,H.has.Ai a,H.ring.below a,H.held.below a,H.turned.below a,H.hp,H.ht,H.off⟩
def PM.far{x l:List (Option Nat)}(H:PM w b gd g m1 m2 p e h t A P)(i:Turn x l w w')(j:∀ k,some k∈x->some k∉allB b g m1 m2 p e h t A):PM w' b gd g m1 m2 p e h t A P:=by
 have a:∀ k,some k∈allB b g m1 m2 p e h t A->w'.heap[k]? = w.heap[k]? := λk a=>i.block k (H.lt k a) (λf=>j k f a);have c:∀ k,k=p\/k=h\/k=t\/k∈e :: A->w'.heap[k]? = w.heap[k]? := λk d=>a k (BC _ (Fb.2 d));exact⟨H.log.far i (λk m f=>j k m (BL _ f)),(c p (.inl rfl)).trans H.has,H.ring.kept (λk d=>c k (.inr (.inr (.inr d)))),H.held.block (c h (.inr (.inl rfl))),H.turned.block (c t (.inr (.inr (.inl rfl)))),H.hp,H.ht,H.off⟩
def PM.ZU {L':Lg} (H:PM w b gd g m1 m2 p e h t A P) (f:LR w' b' gd g m1' m2' L'.rw) (d:Turn (b++lb g m1 m2) (b'++lb g m1' m2') w w') :
 PM w' b' gd g m1' m2' p e h t A { P with L:=L' }/\Turn (allB b g m1 m2 p e h t A) (allB b' g m1' m2' p e h t A) w w':=by
 have c:∀ k,k=p\/k=h\/k=t\/k∈e :: A->w'.heap[k]? = w.heap[k]? := λk a=>d.block k (H.dS k (Fb.2 a)) (λi=>H.off k i (Fb.2 a));exact⟨⟨f,(c p (.inl rfl)).trans H.has,H.ring.kept (λk a=>c k (.inr (.inr (.inr a)))),H.held.block (c h (.inr (.inl rfl))),H.turned.block (c t (.inr (.inr (.inl rfl)))),H.hp,H.ht,DR1 H.off d H.dS⟩,d.left _⟩
def PM.set {P':Pl} (H:PM w b gd g m1 m2 p e h t A P) (i:Nat) (v:Value) (j:(WF g e h t P).setIfInBounds i v=WF g e h t P') (l:P'.L=P.L) (a:P'.ring=P.ring) (m:P'.turned=P.turned) :
 PM (w.setCell ⟨p,i,none⟩ v) b gd g m1 m2 p e h t A P'/\Turn (allB b g m1 m2 p e h t A) (allB b g m1 m2 p e h t A) w (w.setCell ⟨p,i,none⟩ v):=by
 have c:some p∈pb p e h t A:=Fb.2 (.inl rfl);have n:=Eu [some p] p i v w (BH.2 rfl)
 have d:¬ h=p:=λx=>by subst x;exact H.held.Gx H.has
 have f:¬ t=p:=λx=>by subst x;exact H.turned.Gx H.has
 refine⟨⟨?_,j ▸ H.has.set i v, ?_, ?_, ?_,H.hp,H.ht,H.off⟩,Eu _ p i v w (BC _ c)⟩
 ·rw[l];exact H.log.far n (λk o q=>by cases BH.1 o;exact H.off p q c)
 ·rw[a];exact H.ring.kept λx r=>CX _ _ _ _ (λy=>H.hp (by rw[show p=x from y.symm];exact r))
 ·rw[a];exact H.held.far d v
 ·rw[m];exact H.turned.far f v
end
end Go.Proofs.YtjihboddejaelaaGreat
namespace Go.Proofs.YtjihboddejaelaaGreat
open Go.RowKit
def DY1{L:Lg}{x:Int}(h:L.rw.Dy x=0):L.D.down=false:=by
 cases b:L.D.down
 ·rfl
 ·exfalso
  have g:∀ f a n,L.rw.D.Dy f a n=0->False:=λf a n h=>by
   unfold Dk.Dy at h;simp[Lg.rw,b]at h
   first |(split at h <;> simp_all) | simp_all
  have c:L.rw.D.Vl 0≠0:=by
   unfold Dk.Vl;simp[Lg.rw,b]
  unfold Rw.Dy at h;by_cases d:0<=x/\x<=2147483647
  ·rw [AC d] at h;by_cases e:L.rw.f1 x≠0
   ·rw[AC e]at h;exact g _ _ _ h
   ·rw[AO e,AC c]at h;exact c h
  ·rw[AO d]at h;cases h
def vM{L:Lg}(ok:L.ok){x:Int}(h:L.rw.Dy x=0):(L.rw.Fa x).size=1024:=by
 have a:=DY1 h;obtain⟨e,f⟩:=fU ok a x;rw[<- e];rw[<- f]at h;unfold Lg.Dy at h;unfold Lg.Fa
 split at h
 ·rename_i b;rw[AC ⟨b.1,b.2,a⟩];rw[AO (by rw[a];simp)]at h
  split at h
  ·rename_i c;rw[AC c]
   have d:Aw L.fs x-1<L.fs.length:=by have:=Wv L.fs x;omega
   rw[DK d];exact(ok.frames _ (EI d)).2
  ·rename_i c;rw[AO c]
   split at h
   ·rename_i g;rw[AC g,Df,Bc];simp only[CU,DJ];have:(x.toNat:Int)=x:=OU b.1;omega
   ·cases h
 ·cases h
def Rh{K L:Nat}(b:1<=K)(c:K<=5)(d:L<=2147483647){cs:List ByteArray}(a:Ce cs<=1012):(Dj K L cs).size=1024:=by
 unfold Dj;rw[AO (by omega),Df];exact Zx a
section
variable {P:Pl}
def Pl.ok.sub(ok:P.ok){F:List Pf}(h:F.Sublist P.ring){L':Lg}(b:L'.ok)(s:Int):({ P with ring:=F,L:=L',spills:=s }:Pl).ok :=
 ⟨b,(h.map _).nodup ok.names,λf a=>ok.pages f (h.subset a),λf a=>ok.size f (h.subset a),ok.most,BN h.length_le ok.full,ok.few,ok.link,ok.turnd,ok.turns⟩
def Lp(x:Nat)(F:List Pf):(Ns x F).Sublist F:=Aa8
def qQ(ok:P.ok)(f:Pf):(P.Io f).1.ok:=by
 unfold Pl.Io
 split
 ·split
  ·exact ok.sub (Lp _ _) (Na ok.log _ _) _
  ·exact ok.sub (nN _) (Na ok.log _ _) _
 ·exact ok.sub (Lp _ _) ok.log _
def ER1(ok:P.ok){f:Pf}(d:f∈P.ring)(h:(P.Io f).2=0):(P.Io f).1.ring.length+1=P.ring.length:=by
 have a:(Ns f.n P.ring).length+1=P.ring.length:=by
  obtain⟨F1,F2,e⟩:=TI d;have b:=ok.names;rw[e]at b ⊢;rw[Uj b];simp;omega
 unfold Pl.Io at h ⊢
 split
 ·rename_i g;rw[AC g]at h
  split
  ·exact a
  ·rename_i c;rw[AO c]at h;exact absurd h c
 ·exact a
def WH(ok:P.ok):P.room.1.ok/\(P.room.2=0->P.room.1.ring.length<P.most):=by
 unfold Pl.room
 split
 ·rename_i h;exact⟨ok,λ_=>h⟩
 ·rename_i h
  split
  ·exact⟨ok,λh=>by cases h⟩
  ·rename_i f a;refine⟨qQ ok f,λb=>?_⟩;have c:f∈P.ring:=YA a;have:=ER1 ok c b;have:=ok.full;omega
def AG1(f:Pf):(P.Io f).1.most=P.most/\(P.Io f).1.pages=P.pages/\(P.Io f).1.free=P.free/\(P.Io f).1.turned=P.turned/\∀ x∈(P.Io f).1.ring,x∈P.ring:=by
 unfold Pl.Io
 split
 ·split <;> exact⟨rfl,rfl,rfl,rfl,λx a=>by first | exact(Lp _ _).subset a | exact a⟩
 ·exact⟨rfl,rfl,rfl,rfl,λx a=>(Lp _ _).subset a⟩
def Lj:P.room.1.most=P.most/\P.room.1.pages=P.pages/\P.room.1.free=P.free/\P.room.1.turned=P.turned/\∀ x∈P.room.1.ring,x∈P.ring:=by
 unfold Pl.room
 split
 ·exact⟨rfl,rfl,rfl,rfl,λx a=>a⟩
 ·split
  ·exact⟨rfl,rfl,rfl,rfl,λx a=>a⟩
  ·exact AG1 _
def fC(ok:P.ok){f:Pf}(b:∀ g∈P.ring,(g.n:Int)≠(f.n:Int))(c:f.n<P.pages)(d:f.s.size=1024)(i:P.ring.length<P.most)(h m:Int):({ P with ring:=P.ring++[f],hits:=h,misses:=m }:Pl).ok:=by
 refine⟨ok.log, ?_,λg a=>?_,λg a=>?_,ok.most, ?_,ok.few,ok.link,ok.turnd,ok.turns⟩
 ·show ((P.ring++[f]).map _).Nodup;rw[D9,CZ];refine⟨ok.names,by simp,λx j y k e=>?_⟩;obtain⟨g,a,rfl⟩:=DI.1 j
  have:y=f.n:=by simpa using k
  exact b g a (by omega)
 ·rcases BO.1 a with a | a
  ·exact ok.pages g a
  ·rw[BH.1 a];exact c
 ·rcases BO.1 a with a | a
  ·exact ok.size g a
  ·rw[BH.1 a];exact d
 ·show (P.ring++[f]).length<=_;rw[A8,JB];exact i
def Yo(ok:P.ok)(x:Int):(P.get x).1.ok:=by
 unfold Pl.get
 split
 ·rename_i t
  split
  ·rename_i f b;obtain⟨F1,F2,e,u,v⟩:=kX b;have c:=ok.names;rw[e]at c
   have h:Ns f.n P.ring=F1++F2:=by rw[e];exact Uj c
   obtain⟨k,n2,_⟩:=Fz c
   have i:f∈P.ring:=by rw[e];exact BC _ (AZ ..)
   have j:({ P with ring:=Ns f.n P.ring }:Pl).ok:=ok.sub (Lp _ _) ok.log _;refine fC j (λg a=>?_) (ok.pages f i) (ok.size f i) ?_ _ _
   ·rw [show ({ P with ring:=Ns f.n P.ring }:Pl).ring=F1++F2 from h] at a
    rcases BO.1 a with a | a
    ·exact k g a
    ·exact n2 g a
   ·show (Ns f.n P.ring).length<P.most;have:=ok.full;rw[h];rw[e]at this;simp at this ⊢;omega
  ·rename_i b
   split
   ·rename_i l;obtain⟨d,m⟩:=WH ok;have o:=m l;unfold Pl.fetch
    split
    ·rename_i p;obtain⟨q,r,w,y,s⟩:=Lj (P:=P);refine fC d (λg a=>?_) ?_ (vM d.log p) (by rw[q];exact o) _ _
     ·have:=aX b g (s g a);show(g.n:Int)≠(x.toNat:Int);omega
     ·show x.toNat<P.room.1.pages;rw[r];omega
    ·exact d
   ·exact(WH ok).1
 ·exact ok
end
def Yn(l1:List UInt8)(T:List Fr->Nat->Prop):Prop:=Cj l1≠2/\T (Eh l1 (Az l1 (Cj l1)).2.1) (Az l1 (Cj l1)).2.2/\RU l1
def Yn.of{l1:List UInt8}{T:List Fr->Nat->Prop}{a N f p:Nat}{fs:List Fr}(h:Cj l1=a/\Az l1 a=(N,f,p)/\Eh l1 f=fs)(i:a<2)(b:T fs p)(c:RU l1):Yn l1 T:=by
 obtain⟨d,e,g⟩:=h;unfold Yn;rw[d,e];dsimp only;rw[g];exact⟨by omega,b,c⟩
def GO0{L:Lg}(h:Safe L){T:List Fr->Nat->Prop}(a:T (L.fs.take L.kept) L.pages)(keep:List Int):Yn (L.D.Ey keep).l1 T:=.of (Qw h keep).2 h.ok.slot a (Yx h keep)
def DA1 {L:Lg} (h:Safe L) (S:∀ keep,Ij (L.settle (L.D.Ey keep).l1)) (e:∀ keep,64<=(L.D.Ey keep).l1.length) {f p:Nat} (g:f<=L.fs.length) (i:p<4294967296) {T U:List Fr->Nat->Prop} (s:T (L.fs.take L.kept) L.pages) (x:U (L.fs.take f) p) :
 (L.Eb f p=0->Ij (L.tell f p)/\(L.tell f p).fs=L.fs/\(L.tell f p).kept=f/\(L.tell f p).pages=p) /\
 (L.Eb f p≠0->(L.tell f p).D.down=true/\∀ keep,Yn ((L.tell f p).D.Ey keep).l1 T\/Yn ((L.tell f p).D.Ey keep).l1 U):=by
 have t:=h.ok.slot;have n:=XF t f p;have r:(L.D.Ey [1]).l1=L.D.seen 1:=Nu _ _ _ _;by_cases c:L.D.stops
 ·have j:L.Eb f p=2:=AC c;have o:L.tell f p={ L with D:=L.Cf f p }:=AC c
  have y:L.Cf f p=L.D.turn:=by rw[n];exact AC c
  have l:L.D.turn.down=true:=by unfold Dk.turn;rw[AC c]
  refine⟨λa=>(by rw[j]at a;cases a),λ_=>?_⟩;rw[o,y];refine⟨l,λkeep=>.inl ?_⟩;show Yn (L.D.turn.Ey keep).l1 T;rw[(lI L.D keep).2];exact GO0 h s keep
 ·have j:L.Eb f p=(L.Cf f p).Dw:=AO c;by_cases a:(L.Cf f p).stops
  ·have m:L.Eb f p=2:=j.trans (AC a);have o:L.tell f p={ L with D:=(L.Cf f p).sync 1 }:=(AO c).trans (AC a)
   have z:(L.Cf f p).sync 1=(L.Cf f p).turn:=by
    unfold Dk.sync;rw[AC (by decide),AC a]
   have l:(L.Cf f p).turn.down=true:=by unfold Dk.turn;rw[AC a]
   refine⟨λk=>(by rw[m]at k;cases k),λ_=>?_⟩;rw[o,z];refine⟨l,λkeep=>?_⟩;show Yn ((L.Cf f p).turn.Ey keep).l1 T\/Yn ((L.Cf f p).turn.Ey keep).l1 U;rw[(lI (L.Cf f p) keep).2]
   have w1:(L.Cf f p).l1=L.D.l1:=by rw[n];exact(Ip _ _).2.1
   have A:(L.Cf f p).waits=L.D.waits++[SA L f p]:=by
    rw[n];unfold Dk.change;rw[AO c]
   have B:((L.Cf f p).Ey keep).l1=Ko (SA L f p) (PI keep (0+L.D.waits.length)) (L.D.Ey keep).l1 1:=by
    show Gm keep (L.Cf f p).waits 0 1 (L.Cf f p).l1=_;rw[A,w1,Qc];rfl
   rw[B];have d:=NZ1 (S keep) (e keep) g i (PI keep (0+L.D.waits.length))
   rcases d with d | d
   ·exact .inl (.of d t s (uX (S keep) (e keep) g i _))
   ·exact .inr (.of d (by show 1-L.slot<2;omega) x (uX (S keep) (e keep) g i _))
  ·have m:L.Eb f p=0:=j.trans (AO a);refine⟨λ_=>?_,λk=>absurd m k⟩;obtain⟨C,u,v⟩:=SD0 h f p c a;have w:=S [1];rw[r]at w;have q:=e [1];rw[r]at q;have E:=uY w q g i u v;have b:(L.settle (L.D.seen 1)).tell f p={ L with D:=((L.settle (L.D.seen 1)).Cf f p).sync 1,slot:=1-L.slot,number:=L.number % 3+1,kept:=f,pages:=p }:=(AO u).trans (AO v);rw[C];refine⟨E, ?_⟩;rw[b];exact⟨rfl,rfl,rfl⟩
structure Bk where
 q:Nat
 K:Nat->ByteArray
def iG(fs:List Fr)(n:Nat)(t:ByteArray):Prop:=Aw fs n≠0/\(fs[Aw fs n-1]?).map (·.text)=some t
def BX1{fs:List Fr}{n:Nat}{t:ByteArray}:iG (fs++[⟨n,t⟩]) n t:=by
 unfold iG;rw[Ri,AC rfl];refine⟨by omega, ?_⟩;rw[show fs.length+1-1=fs.length by omega,GU (AY _),I9];rfl
def kM {L:Lg} (f:L.fs.length<=60000) {n:Nat} (h:n<=65536) {t:ByteArray} (b:t.size=1024) :
 L.Dp n t=L.D.Dw/\L.append n t={ L with D:=L.D.change ⟨1,L.at_,bsOf (Fr.bytes ⟨n,t⟩),false⟩,fs:=if L.D.stops then L.fs else L.fs++[⟨n,t⟩] }:=by
 have c:L.RX n t:=⟨by omega,by omega,b⟩
 have g:L.at_=64+1028*L.fs.length:=rfl
 have a:L.at_+1028<=67108864:=by omega
 have i:=Fr.Hz ⟨n,t⟩ b;have d:Jr (1:Nat) (L.at_:Nat) (bsOf (Fr.bytes ⟨n,t⟩)).size:=Oq.2 ⟨by omega,by rw[Df];omega⟩;refine⟨(AC c).trans (AC a),(AC ⟨c,a⟩).trans ?_⟩
 have e:L.D.write 1 L.at_ (bsOf (Fr.bytes ⟨n,t⟩))=L.D.change ⟨1,L.at_,bsOf (Fr.bytes ⟨n,t⟩),false⟩:=by
  refine(AC d).trans ?_;rw[IR];rfl
 rw[IR,e]
section
variable {L:Lg} {B C:Bk}
end
variable {mf:Nat}
def Jo(l0:List UInt8)(fs:List Fr)(n:Nat)(t:ByteArray):Prop :=
 if Aw fs n≠0 then(fs[Aw fs n-1]?).map (·.text)=some t else bsOf (Bc l0 (1024*n) 1024)=t/\1024*n+1024<=l0.length
def Jo.of{l0:List UInt8}{fs:List Fr}{n:Nat}{t:ByteArray}(h:iG fs n t):Jo l0 fs n t:=by
 unfold Jo;rw[AC h.1];exact h.2
def Xv{l0:List UInt8}{fs:List Fr}{n:Nat}{t:ByteArray}:Jo l0 (fs++[⟨n,t⟩]) n t:=.of BX1
def Zb{l0:List UInt8}{fs:List Fr}{n m:Nat}{t s:ByteArray}(h:Jo l0 fs m s)(b:m≠n):Jo l0 (fs++[⟨n,t⟩]) m s:=by
 unfold Jo at h ⊢;rw[Ri,AO (show ¬((⟨n,t⟩:Fr).n:Int)=m by show ¬((n:Nat):Int)=m;omega)];by_cases a:Aw fs m≠0
 ·rw [AC a] at h ⊢;rw[G9 (by have:=Wv fs m;omega)];exact h
 ·rw[AO a]at h ⊢;exact h
def Om(mf:Nat)(l0:List UInt8)(B:Bk)(fs:List Fr)(p:Nat):Prop:=(p=B.q/\fs.length<=mf)/\∀ n,n<B.q->Jo l0 fs n (B.K n)
def UH(mf:Nat)(l0 l1:List UInt8)(B:Bk):Prop:=Yn l1 (Om mf l0 B)
structure IZ (mf:Nat) (L:Lg) (B:Bk):Prop where
 safe:Safe L
 kept:Om mf L.D.l0 B (L.fs.take L.kept) L.pages
 few:B.q<=65536
def KH(mf:Nat)(D:Dk)(B C:Bk):Prop:=D.down=true/\∀ keep,UH mf (D.Ey keep).l0 (D.Ey keep).l1 B\/UH mf (D.Ey keep).l0 (D.Ey keep).l1 C
def zS{L:Lg}{B:Bk}(h:IZ mf L B)(keep:List Int):UH mf (L.D.Ey keep).l0 (L.D.Ey keep).l1 B:=by
 have e:(L.D.Ey keep).l0=L.D.l0:=(Qw h.safe keep).1;unfold UH;rw[e];exact GO0 h.safe h.kept keep
def IZ.lost{L:Lg}{B:Bk}(h:IZ mf L B)(a:L.D.down=true)(C:Bk):KH mf L.D B C:=⟨a,λkeep=>.inl (zS h keep)⟩
def IZ.turned{L:Lg}{B:Bk}(h:IZ mf L B)(c:L.D.stops)(C:Bk):KH mf L.D.turn B C:=by
 refine⟨by unfold Dk.turn;rw[AC c],λkeep=>.inl ?_⟩;obtain⟨a,b⟩:=lI L.D keep;rw[a,b];exact zS h keep
def Qn(q:Nat)(F:Nat->Prop)(l a:List UInt8):Prop:=∀ n,n<q->¬ F n->1024*n+1024<=l.length->1024*n+1024<=a.length/\Bc a (1024*n) 1024=Bc l (1024*n) 1024
def Qn.refl(q:Nat)(F:Nat->Prop)(l:List UInt8):Qn q F l l:=λ_ _ _ h=>⟨h,rfl⟩
def Qn.trans{q:Nat}{F:Nat->Prop}{l l1 l2:List UInt8}(h:Qn q F l l1)(k:Qn q F l1 l2):Qn q F l l2:=λn e f g=>by
 obtain⟨a,b⟩:=h n e f g;obtain⟨c,d⟩:=k n e f a;exact⟨c,d.trans b⟩
def uK{q:Nat}{F:Nat->Prop}{l t:List UInt8}{m:Nat}(a:F m)(d:t.length<=1024):Qn q F l (GR l (1024*m) t):=λn _ b f=>by
 have c:n≠m:=λe=>b (e ▸ a);exact⟨by rw[Lh];omega,Iz (by omega) (by omega)⟩
def uG{q:Nat}{F:Nat->Prop}{l:List UInt8}:Qn q F l (zt l (1024*q)):=λn b _ a=>⟨by rw[PM1];omega,Ye (by omega) a⟩
def VX(q:Nat)(F:Nat->Prop)(c:Ch):Prop:=c.file=0/\((c.cut=true/\c.at_=1024*q)\/(c.cut=false/\∃ m,m<q/\F m/\c.at_=1024*m/\c.text.size=1024))
def QL0{q:Nat}{F:Nat->Prop}{c:Ch}(h:VX q F c)(how:Int){l:List UInt8}:Qn q F l (Ko c how l 0):=by
 have hcut:c.cut=true->c.at_=1024*q->Qn q F l (c.done l):=λa b=>by
  have e:c.done l=zt l (1024*q):=by unfold Ch.done;rw[AC a,b];rfl
  rw[e];exact uG
 unfold Ko;obtain⟨i,j⟩:=h;rw[AC i]
 rcases j with⟨a,b⟩ |⟨a,m,k,f,g,n⟩
 ·split
  ·exact hcut a b
  ·split
   ·have e:c.half=c:=by unfold Ch.half;rw [AC a]
    rw[e];exact hcut a b
   ·exact .refl _ _ _
 ·have d:¬ c.cut=true:=by rw [a];decide
  split
  ·unfold Ch.done;rw[AO d,g];exact uK f (by rw[JX];show c.text.size<=_;omega)
  ·split
   ·unfold Ch.half;rw[AO d];unfold Ch.done;rw[AO (show ¬ c.cut=true from d)];dsimp only;rw[g];exact uK f (by rw[JX];show(c.text.extract 0 (c.text.size / 2)).size<=_;rw[TJ];omega)
   ·exact .refl _ _ _
def DS0 (keep:List Int) {q:Nat} {F:Nat->Prop}:∀ (ws:List Ch) (i:Nat) (l:List UInt8),(∀ c∈ws,VX q F c)->Qn q F l (Gm keep ws i 0 l)
 | [],i,l,_=>.refl _ _ _
 | c :: ws,i,l,h=>(QL0 (h c (AZ ..)) (PI keep i)).trans (DS0 keep ws (i+1) _ λd a=>h d (BF _ a))
structure JH (q:Nat) (F:Nat->Prop) (D0 D:Dk):Prop where
 l0:D.l0=D0.l0
 l1:D.l1=D0.l1
 waits:∃ ws,D.waits=D0.waits++ws/\∀ c∈ws,VX q F c
section
variable {q:Nat} {F:Nat->Prop} {D0 D:Dk}
def JH.refl(q:Nat)(F:Nat->Prop)(D:Dk):JH q F D D:=⟨rfl,rfl,[],by simp,λc a=>by cases a⟩
def JH.turn(h:JH q F D0 D):JH q F D0 D.turn:=by
 obtain⟨a,b,c⟩:=Xp D;exact⟨a.trans h.l0,b.trans h.l1,by rw[c];exact h.waits⟩
def JH.change(h:JH q F D0 D){c:Ch}(j:VX q F c):JH q F D0 (D.change c):=by
 obtain⟨a,b,e⟩:=Ip D c;refine⟨a.trans h.l0,b.trans h.l1, ?_⟩;obtain⟨ws,g,i⟩:=h.waits
 rcases e with e | e
 ·exact⟨ws,e.trans g,i⟩
 ·refine ⟨ws++[c],by rw [e,g,BU],λd f=>?_⟩
  rcases BO.1 f with f | f
  ·exact i d f
  ·rw[BH.1 f];exact j
def FQ1(h:JH q F D0 D)(keep:List Int):(D.Ey keep).l1=(D0.Ey keep).l1:=by
 obtain⟨ws,a,b⟩:=h.waits;show Gm keep D.waits 0 1 D.l1=Gm keep D0.waits 0 1 D0.l1;rw[a,h.l1,Qc]
 exact Nl keep ws _ 1 _ λc d=>by rw[(b c d).1];omega
def EC1(h:JH q F D0 D)(a:∀ c∈D0.waits,c.file≠0)(keep:List Int):Qn q F D0.l0 (D.Ey keep).l0:=by
 obtain⟨ws,b,d⟩:=h.waits
 have e:(D.Ey keep).l0=Gm keep ws (0+D0.waits.length) 0 D0.l0:=by
  show Gm keep D.waits 0 0 D.l0=_;rw[b,h.l0,Qc,Nl keep D0.waits 0 0 D0.l0 a]
 rw[e];exact DS0 keep ws _ _ d
def DI1(h:JH q F D0 D)(a:∀ c∈D0.waits,c.file≠0):Qn q F D0.l0 (D.seen 0)/\D.seen 1=D0.seen 1:=by
 have e:(D.Ey [1]).l0=D.seen 0:=Nu _ _ _ _;have b:(D.Ey [1]).l1=D.seen 1:=Nu _ _ _ _;have d:(D0.Ey [1]).l1=D0.seen 1:=Nu _ _ _ _;refine⟨?_, ?_⟩
 ·rw[<- e];exact EC1 h a [1]
 ·rw[<- b,<- d];exact FQ1 h [1]
end
def Vz{L:Lg}(D:Dk){m:Nat}(h:L.ok)(c:m<65536)(a:Lc L m):L.Vg D m=D.change ⟨0,1024*m,textOf L m,false⟩/\L.Qk D m=D.Dw:=by
 have d:=(textOf_size h a).1;have b:Jr (0:Nat) (1024*m:Nat) (textOf L m).size:=Oq.2 ⟨by omega,by omega⟩;refine⟨(AC a).trans ((AC b).trans ?_),(AC a).trans (AC b)⟩;rw[IR];rfl
def CX1{L:Lg}{q:Nat}(g:q<=65536)(h:L.ok){D0 D:Dk}(e:JH q (Lc L) D0 D){m:Nat}(f:m<q):JH q (Lc L) D0 (L.Vg D m)/\(L.Qk D m≠0->(L.Vg D m).down=true):=by
 by_cases a:Lc L m
 ·obtain ⟨b,c⟩:=Vz D h (show m<65536 by omega) a;rw[b,c];exact⟨e.change ⟨rfl,.inr ⟨rfl,m,f,a,rfl,(textOf_size h a).1⟩⟩,λd=>zQ d⟩
 ·obtain ⟨b,c⟩:=jD D a;rw[b,c];exact⟨e,λd=>absurd rfl d⟩
def wX {L:Lg} {q:Nat} (c:q<=65536) (h:L.ok) {D0:Dk}:∀ (k m:Nat) (D:Dk),m+k<=q->JH q (Lc L) D0 D->JH q (Lc L) D0 (L.puts k m D).1/\((L.puts k m D).2≠0->(L.puts k m D).1.down=true)
 | 0,m,D,_,hw=>⟨hw,λd=>absurd rfl d⟩
 | k+1,m,D,hm,hw=>by
   obtain⟨a,b⟩:=CX1 c h hw (show m<q by omega);rw[Lg.puts]
   split
   ·exact wX c h k (m+1) _ (by omega) a
   ·exact⟨a,b⟩
def jH {L:Lg} (h:L.ok):∀ (k m:Nat) (D:Dk),m+k<=65536->(L.puts k m D).2=0\/(L.puts k m D).2=2
 | 0,m,D,_=>.inl rfl
 | k+1,m,D,hm=>by
   rw[Lg.puts]
   split
   ·exact jH h k (m+1) _ (by omega)
   ·by_cases a:Lc L m
    ·rw [(Vz D h (show m<65536 by omega) a).2];exact Zz D
    ·exact .inl (jD D a).2
def AF1 {L:Lg} (h:L.ok) (D:Dk) {m:Nat} (j:m<65536) :
 (∀ n,n≠m->1024*n+1024<=(D.seen 0).length->1024*n+1024<=((L.Vg D m).seen 0).length/\Bc ((L.Vg D m).seen 0) (1024*n) 1024=Bc (D.seen 0) (1024*n) 1024) /\
 (L.Qk D m=0->Lc L m->1024*m+1024<=((L.Vg D m).seen 0).length/\bsOf (Bc ((L.Vg D m).seen 0) (1024*m) 1024)=textOf L m):=by
 by_cases a:Lc L m
 ·obtain ⟨d,f⟩:=Vz D h j a;have k:=(textOf_size h a).1;rw[d,f]
  have i:(textOf L m).data.toList.length=1024:=by rw[JX];exact k
  by_cases c:D.stops
  ·have e:D.change ⟨0,1024*m,textOf L m,false⟩=D.turn:=AC c;rw[e,D.bC 0];exact⟨λn _ b=>⟨b,rfl⟩,λg=>absurd c ((Fj D).1 g)⟩
  ·rw [Dk.Rj _ _ c,AC rfl]
   have l:Ch.done ⟨0,1024*m,textOf L m,false⟩ (D.seen 0)=GR (D.seen 0) (1024*m) (textOf L m).data.toList:=by
    unfold Ch.done;rw[AO (show ¬(false=true)by decide)]
   rw[l];refine⟨λn o b=>⟨by rw[Lh];omega,Iz (by omega) (by omega)⟩,λ_ _=>⟨by rw[Lh];omega, ?_⟩⟩;have:=Oe (D.seen 0) (1024*m) (textOf L m).data.toList;rw[i]at this;rw[this,WS]
 ·obtain ⟨d,f⟩:=jD D a;rw[d,f];exact⟨λn _ b=>⟨b,rfl⟩,λ_ g=>absurd g a⟩
def yA {L:Lg} (h:L.ok):∀ (k m:Nat) (D:Dk),m+k<=65536->(L.puts k m D).2=0 ->
 (∀ n,n<m->1024*n+1024<=(D.seen 0).length->1024*n+1024<=((L.puts k m D).1.seen 0).length/\Bc ((L.puts k m D).1.seen 0) (1024*n) 1024=Bc (D.seen 0) (1024*n) 1024) /\
 (∀ n,m<=n->n<m+k->Lc L n->1024*n+1024<=((L.puts k m D).1.seen 0).length/\bsOf (Bc ((L.puts k m D).1.seen 0) (1024*n) 1024)=textOf L n)
 | 0,m,D,_,_=>⟨λn _ b=>⟨b,rfl⟩,λn l o=>by omega⟩
 | k+1,m,D,hm,he=>by
   obtain⟨p,q⟩:=AF1 h D (show m<65536 by omega);rw[Lg.puts]at he ⊢;by_cases a:L.Qk D m=0
   ·rw [AC a] at he ⊢;obtain⟨g,r⟩:=yA h k (m+1) _ (by omega) he;refine⟨λn i b=>?_,λn l o j=>?_⟩
    ·obtain ⟨c,d⟩:=p n (by omega) b;obtain⟨e,f⟩:=g n (by omega) c;exact⟨e,f.trans d⟩
    ·by_cases i:n=m
     ·subst i;obtain⟨c,d⟩:=q a j;obtain⟨e,f⟩:=g n (by omega) c;exact⟨e,by rw[f];exact d⟩
     ·exact r n (by omega) (by omega) j
   ·rw [AO a] at he;exact absurd he a
end Go.Proofs.YtjihboddejaelaaGreat
namespace Go.Proofs.YtjihboddejaelaaGreat
open Go.RowKit
variable {mf:Nat}
def J5(D:Dk)(l:List UInt8):Prop:=D.l0=l/\∀ c∈D.waits,c.file≠0
def J5.turn{D:Dk}{l:List UInt8}(h:J5 D l):J5 D.turn l:=by
 obtain⟨a,_,c⟩:=Xp D;exact⟨a.trans h.1,by rw[c];exact h.2⟩
def J5.change{D:Dk}{l:List UInt8}(h:J5 D l){c:Ch}(f:c.file≠0):J5 (D.change c) l:=by
 obtain⟨a,_,e⟩:=Ip D c;refine⟨a.trans h.1,λd b=>?_⟩
 rcases e with e | e
 ·rw[e]at b;exact h.2 d b
 ·rw [e] at b
  rcases BO.1 b with b | b
  ·exact h.2 d b
  ·rw[BH.1 b];exact f
def J5.UX{D:Dk}{l:List UInt8}(h:J5 D l):J5 (D.sync 1) l:=by
 by_cases a:D.stops
 ·have e:D.sync 1=D.turn:=by
   unfold Dk.sync;rw[AC (by decide),AC a]
  rw[e];exact h.turn
 ·have e:D.sync 1=D.Tc 1:=by
   unfold Dk.sync;rw[AC (by decide),AO a];rfl
  rw[e];refine⟨h.1,λc d=>?_⟩;have b:c∈D.waits.filter (λc=>decide (c.file≠1)):=d;exact h.2 c (OO.1 b).1
def J5.Ey{D:Dk}{l:List UInt8}(h:J5 D l)(keep:List Int):(D.Ey keep).l0=l:=(Nl keep D.waits 0 0 D.l0 h.2).trans h.1
def LG1{L:Lg}{l:List UInt8}(h:J5 L.D l)(b:L.slot<2)(f p:Nat):J5 (L.tell f p).D l:=by
 have e:=XF b f p
 have a:J5 (L.Cf f p) l:=by
  rw[e];exact h.change (by show(1:Nat)≠0;omega)
 unfold Lg.tell
 split
 ·exact a
 ·split
  ·exact a.UX
  ·exact a.UX
section
variable {L:Lg} {B C:Bk}
def iF (h:IZ mf L B) (g:L.fs.length<=60000) {n:Nat} (j:n<=65536) {t:ByteArray} (k:t.size=1024) :
 IZ mf (L.append n t) B/\(L.append n t).D.l0=L.D.l0/\(L.append n t).pages=L.pages/\(L.append n t).kept=L.kept/\(L.Dp n t=0->(L.append n t).fs=L.fs++[⟨n,t⟩]/\L.D.down=false/\(L.append n t).D.down=false)/\(L.Dp n t≠0->L.Dp n t=2/\(L.append n t).fs=L.fs/\(L.append n t).D.down=true):=by
 obtain⟨l,e⟩:=kM g j k;have b:=TJ0 h.safe n t;have i:=h.safe.ok.kept;have c:=(Ip L.D ⟨1,L.at_,bsOf (Fr.bytes ⟨n,t⟩),false⟩).1;rw[l];by_cases a:L.D.stops
 ·have f:L.D.Dw=2:=AC a;rw[e,AC a]at b ⊢;refine⟨⟨b, ?_,h.few⟩,c,rfl,rfl,λd=>(by rw[f]at d;cases d),λ_=>⟨f,rfl, ?_⟩⟩
  ·show Om mf (L.D.change _).l0 B _ _;rw[c];exact h.kept
  ·have m:L.D.change ⟨1,L.at_,bsOf (Fr.bytes ⟨n,t⟩),false⟩=L.D.turn:=AC a;show(L.D.change _).down=true;rw[m];unfold Dk.turn;rw[AC a]
 ·rw [e,AO a] at b ⊢;refine⟨⟨b, ?_,h.few⟩,c,rfl,rfl,λ_=>⟨rfl,fF a,DD1 a⟩,λd=>absurd ((Fj _).2 a) d⟩;show Om mf (L.D.change _).l0 B ((L.fs++[_]).take L.kept) L.pages;rw[c,TC i];exact h.kept
def OS1(h:IZ mf L B):IZ mf L.back B:=by
 refine⟨Zv h.safe, ?_,h.few⟩;show Om mf L.D.l0 B ((L.fs.take L.kept).take L.kept) L.pages;rw[MF,Nat.min_self];exact h.kept
def xH (h:Safe L) (S:∀ keep,Ij (L.settle (L.D.Ey keep).l1)) (c:∀ keep,64<=(L.D.Ey keep).l1.length) {f p:Nat} (d:f<=L.fs.length) (s:p<=65536) (g:Om mf L.D.l0 B (L.fs.take L.kept) L.pages) (i:Om mf L.D.l0 C (L.fs.take f) p) :
 (L.Eb f p=0->Ij (L.tell f p)/\(L.tell f p).D.l0=L.D.l0/\(L.tell f p).fs=L.fs/\(L.tell f p).kept=f/\(L.tell f p).pages=p)/\(L.Eb f p≠0->KH mf (L.tell f p).D B C):=by
 obtain⟨j,k⟩:=DA1 h S c d (by omega) (T:=Om mf L.D.l0 B) (U:=Om mf L.D.l0 C) g i;have b:=LG1 (L:=L) ⟨rfl,h.waits0⟩ h.ok.slot f p;refine⟨λa=>?_,λa=>?_⟩
 ·obtain ⟨l,m,n,o⟩:=j a;exact⟨l,b.1,m,n,o⟩
 ·obtain ⟨q,r⟩:=k a;refine⟨q,λkeep=>?_⟩;have e:=b.Ey keep;unfold UH;rw[e];exact r keep
def oU (h:IZ mf L B) (z:L.fs.length<=60000) {n p:Nat} (F:n<=65536) (G:1<=p/\p<=65536) {t:ByteArray} (H:t.size=1024) (o:Om mf L.D.l0 C (L.fs++[⟨n,t⟩]) p) :
 (L.Ez n t p=0->IZ mf (L.Bi n t p) C/\(L.Bi n t p).D.l0=L.D.l0/\(L.Bi n t p).fs=L.fs++[⟨n,t⟩]/\(L.Bi n t p).kept=L.fs.length+1/\(L.Bi n t p).D.down=false)/\(L.Ez n t p≠0->L.Ez n t p=2/\KH mf (L.Bi n t p).D B C):=by
 obtain⟨e,m,_,_,q,j⟩:=iF h z F H;have r:L.Ez n t p=if L.Dp n t=0 then(if(L.append n t).D.stops then 2 else({ L.append n t with D:=(L.append n t).D.sync 1 }:Lg).Eb (L.append n t).fs.length p)else L.Dp n t:=(AC (by omega)).trans (by rw[IR]);have s:L.Bi n t p=if L.Dp n t=0 then(if(L.append n t).D.stops then{ L.append n t with D:=(L.append n t).D.sync 1 }else({ L.append n t with D:=(L.append n t).D.sync 1 }:Lg).tell (L.append n t).fs.length p)else L.append n t:=(AC (by omega)).trans (by rw[IR]);rw[r,s];clear r s;have V:=o.1;by_cases c:L.Dp n t=0
 ·obtain ⟨I,_,U⟩:=q c;clear q j;rw[AC c,AC c];generalize L.append n t=A at *;by_cases b:A.D.stops
  ·rw [AC b,AC b];refine⟨λa=>(by cases a),λ_=>⟨rfl, ?_⟩⟩
   have J:A.D.sync 1=A.D.turn:=by
    unfold Dk.sync;rw[AC (by decide),AC b]
   show KH mf (A.D.sync 1) B _;rw[J];exact e.turned b C
  ·rw [AO b,AO b];have d:=GH1 e.safe b;have K:=(yU e.safe b).1
   obtain⟨X,g⟩:∃ X:Lg,({ A with D:=A.D.sync 1 }:Lg)=X:=⟨_,rfl⟩
   have k:X.D.l0=A.D.l0:=by rw[<- g];exact K
   have l:X.fs=A.fs:=by rw[<- g]
   have M:X.kept=A.kept:=by rw[<- g]
   have N:X.pages=A.pages:=by rw[<- g]
   rw[g]at d ⊢;rw[<- l];have i:X.fs=L.fs++[⟨n,t⟩]:=l.trans I
   have E:64<=X.D.l1.length:=by
    have O:0<X.fs.length:=by rw[i];simp
    have u:=DK O;have:=He (Ju d u) (Fr.Hz _ (d.safe.ok.frames _ (F5 u)).2) (by omega);omega
   have v:Om mf X.D.l0 C (X.fs.take X.fs.length) p:=by
    rw[EE (AY _),i,k,m];exact o
   have P:Om mf X.D.l0 B (X.fs.take X.kept) X.pages:=by rw[k,l,M,N];exact e.kept
   obtain⟨Q,R⟩:=xH d.safe (λkeep=>by rw[(Xg d keep).1];exact d) (λkeep=>by rw[(Xg d keep).2];exact E) (f:=X.fs.length) (p:=p) (AY _) G.2 P v;refine⟨λa=>?_,λa=>⟨(jY X _ _).resolve_left a,R a⟩⟩;obtain⟨S,w,x,y,T⟩:=Q a;exact⟨⟨S.safe,by rw[w,x,y,T];exact v,by omega⟩,by rw[w,k,m],by rw[x];exact i,by rw[y,i];simp,IG1 a⟩
 ·rw [AO c,AO c];exact⟨λa=>absurd a c,λ_=>⟨(j c).1,e.lost (j c).2.2 C⟩⟩
def kQ(h:IZ mf L B)(k:L.fs.length=L.kept){D:Dk}(c:JH B.q (Lc L) L.D D)(e:D.down=true)(C:Bk):KH mf D B C:=by
 refine⟨e,λkeep=>.inl ?_⟩;obtain⟨l,f⟩:=Qw h.safe keep;have g:=EC1 c h.safe.waits0 keep;unfold UH;rw[FQ1 c keep];refine .of f h.safe.ok.slot ⟨h.kept.1,λn d=>?_⟩ (Yx h.safe keep);have a:=h.kept.2 n d;unfold Jo at a ⊢;by_cases b:Aw (L.fs.take L.kept) n≠0
 ·rw[AC b]at a ⊢;exact a
 ·rw [AO b] at a ⊢;rw[EE (by omega)]at b;obtain⟨i,j⟩:=g n d b a.2;exact⟨by rw[j];exact a.1,i⟩
end
def Jo.uniq{l0:List UInt8}{fs:List Fr}{n:Nat}{t s:ByteArray}(h:Jo l0 fs n t)(k:Jo l0 fs n s):t=s:=by
 unfold Jo at h k;by_cases a:Aw fs n≠0
 ·rw [AC a] at h k;rw[h]at k;exact CV k
 ·rw [AO a] at h k;exact h.1.symm.trans k.1
def YO0 {L:Lg} {B:Bk} (h:IZ mf L B) (x:L.fs.length=L.kept) (g:¬ L.kept=0) {D3:Dk} (z:D3.ok) (u:D3.l1=L.D.l1) (F:D3.waits=L.D.waits) (G:D3.seen 1=L.D.seen 1)
 (v:Qn B.q (Lc L) L.D.l0 D3.l0) (pg:∀ n,n<B.q->Lc L n->1024*n+1024<=D3.l0.length/\bsOf (Bc D3.l0 (1024*n) 1024)=textOf L n) :
 (({ L with D:=D3 }:Lg).Eb 0 L.pages=0->IZ mf ({ ({ L with D:=D3 }:Lg).tell 0 L.pages with fs:=[] }:Lg) B/\∀ n,n<B.q->Jo (({ L with D:=D3 }:Lg).tell 0 L.pages).D.l0 [] n (B.K n)) /\
 (({ L with D:=D3 }:Lg).Eb 0 L.pages≠0->({ L with D:=D3 }:Lg).Eb 0 L.pages=2/\KH mf (({ L with D:=D3 }:Lg).tell 0 L.pages).D B B):=by
 have i:=jS h.safe z u F G;have k:L.fs.take L.kept=L.fs:=EE (by omega);have o:=h.kept.1.1;have l:=h.kept.2;rw[k]at l
 have m:∀ n,n<B.q->Jo D3.l0 [] n (B.K n):=λn c=>by
  have b:=l n c;unfold Jo at b ⊢;rw[AO (show ¬ Aw [] n≠0 from λg=>g rfl)];by_cases a:Aw L.fs n≠0
  ·rw [AC a] at b;obtain⟨r,s⟩:=pg n c a;rw[(textOf_size h.safe.ok a).2]at b;exact⟨s.trans (CV b),r⟩
  ·rw [AO a] at b;obtain⟨r,s⟩:=v n c a b.2;exact⟨by rw[s];exact b.1,r⟩
 have y:∀ n,n<B.q->Jo D3.l0 L.fs n (B.K n):=λn c=>by
  have b:=l n c;have t:=m n c;unfold Jo at b t ⊢;by_cases a:Aw L.fs n≠0
  ·rw[AC a]at b ⊢;exact b
  ·rw [AO a] at b ⊢;rw[AO (show ¬ Aw [] n≠0 from λg=>g rfl)]at t;exact t
 have R:64<=L.D.l1.length:=by
  have:=h.safe.top;omega
 obtain⟨M,d⟩:∃ M:Lg,({ L with D:=D3 }:Lg)=M:=⟨_,rfl⟩
 have e:M.D=D3:=by rw[<- d]
 have m1:M.fs=L.fs:=by rw[<- d]
 have m2:M.kept=L.kept:=by rw[<- d]
 have H:M.pages=L.pages:=by rw[<- d]
 rw[d]at i ⊢
 have w:M.fs.length=M.kept:=by rw[m1,m2];exact x
 have A:Om mf M.D.l0 B (M.fs.take M.kept) M.pages:=by
  rw[e,m1,m2,H,k];exact⟨⟨o,by have:=h.kept.1.2;rwa [k]at this⟩,y⟩
 have C:Om mf M.D.l0 B (M.fs.take 0) L.pages:=by
  rw[e,DZ];exact⟨⟨o,BR _⟩,m⟩
 obtain⟨I,J⟩:=xH i (λkeep=>DY0 i w keep) (λkeep=>by
  obtain⟨_,a⟩:=Wx keep M.D.waits 0 1 M.D.l1 (64+1028*M.kept) i.waits1;have E:M.D.l1.length<=(M.D.Ey keep).l1.length:=a;rw[e,u]at E;rw[e]
  omega) (f:=0) (p:=L.pages) (BR _) (by have:=h.few;omega) A C
 refine⟨λj=>?_,λj=>⟨(jY M _ _).resolve_left j,J j⟩⟩;obtain⟨N,O,S,P,Q⟩:=I j;generalize M.tell 0 L.pages=T at *
 have a:∀ n,n<B.q->Jo T.D.l0 [] n (B.K n):=by rw[O,e];exact m
 refine⟨⟨DP1 N.safe P, ?_,h.few⟩,a⟩;show Om mf T.D.l0 B (([]:List Fr).take T.kept) T.pages;rw[List.take_nil,Q];exact⟨⟨o,BR _⟩,a⟩
def NO1 {L:Lg} {B:Bk} (h:IZ mf L B) :
 ((L.Ah.2=0\/L.Ah.2=11)->IZ mf L.Ah.1 B/\L.Ah.1.fs.length<=L.fs.length/\∀ n,n<B.q->∀ t,Jo L.D.l0 L.fs n t->Jo L.Ah.1.D.l0 L.Ah.1.fs n t) /\
 (¬(L.Ah.2=0\/L.Ah.2=11)->L.Ah.2=2/\KH mf L.Ah.1.D B B):=by
 by_cases s:L.fs.length≠L.kept
 ·have e:L.Ah=(L,11):=AC s;rw[e];exact⟨λ_=>⟨h,AY _,λ_ _ _ h=>h⟩,λg=>absurd (.inr rfl) g⟩
 ·have p:L.fs.length=L.kept:=FC s;by_cases g:L.kept=0
  ·have e:L.Ah=(L,0):=(AO s).trans (AC g);rw[e];exact⟨λ_=>⟨h,AY _,λ_ _ _ h=>h⟩,λg=>absurd (.inl rfl) g⟩
  ·have e:L.Ah=if (L.puts L.pages 0 L.D).2≠0 then ({ L with D:=(L.puts L.pages 0 L.D).1 },(L.puts L.pages 0 L.D).2) else L.Gs (L.puts L.pages 0 L.D).1:=(AO s).trans (AO g);have r:=h.safe.ok;have R:=h.kept.1.1;have P:=h.few;have M:L.fs.take L.kept=L.fs:=EE (by omega);have z:=h.kept.2;rw[M]at z;obtain⟨w1,H⟩:=wX P r L.pages 0 L.D (by omega) (JH.refl B.q (Lc L) L.D);have I:=jH r L.pages 0 L.D (by omega);have ps:=yA r L.pages 0 L.D (by omega);have S:=(ZK L L.pages 0 L.D r.disk).1;rw[e];by_cases i:(L.puts L.pages 0 L.D).2≠0
   ·rw [AC i];have k:(L.puts L.pages 0 L.D).2=2:=I.resolve_left i;refine⟨λd=>?_,λ_=>⟨k,kQ h p w1 (H i) B⟩⟩;dsimp only at d;rw[k]at d;exact absurd d (by decide)
   ·rw [AO i];obtain⟨_,X⟩:=ps (FC i);clear ps I H i e;generalize (L.puts L.pages 0 L.D).1=a at *;have A:Jr (0:Nat) (1024*L.pages:Nat) (0:Nat):=Oq.2 ⟨by omega,by omega⟩;have C:a.IM 0 (1024*L.pages:Nat)=a.Dw:=AC A
    have E:a.Fp 0 (1024*L.pages:Nat)=a.change ⟨0,1024*L.pages,⟨#[]⟩,true⟩:=by
     refine(AC A).trans ?_;rw[IR];rfl
    have T:VX B.q (Lc L) ⟨0,1024*L.pages,⟨#[]⟩,true⟩:=⟨rfl,.inl ⟨rfl,by rw[R]⟩⟩
    have m:=w1.change T;have J:L.Gs a=if a.IM 0 (1024*L.pages:Nat)≠0 then({ L with D:=a.Fp 0 (1024*L.pages:Nat) },a.IM 0 (1024*L.pages:Nat))else if(a.Fp 0 (1024*L.pages:Nat)).stops then({ L with D:=(a.Fp 0 (1024*L.pages:Nat)).sync 0 },2)else(if({ L with D:=(a.Fp 0 (1024*L.pages:Nat)).sync 0 }:Lg).Eb 0 L.pages=0 then({ ({ L with D:=(a.Fp 0 (1024*L.pages:Nat)).sync 0 }:Lg).tell 0 L.pages with fs:=[] },0)else(({ L with D:=(a.Fp 0 (1024*L.pages:Nat)).sync 0 }:Lg).tell 0 L.pages,({ L with D:=(a.Fp 0 (1024*L.pages:Nat)).sync 0 }:Lg).Eb 0 L.pages)):=rfl;rw[J,C,E];clear J C E;by_cases d:a.Dw≠0
    ·rw [AC d];have k:a.Dw=2:=(Zz a).resolve_left d;refine⟨λf=>?_,λ_=>⟨k,kQ h p m (zQ d) B⟩⟩;dsimp only at f;rw[k]at f;exact absurd f (by decide)
    ·rw [AO d];have U:¬ a.stops:=(Fj a).1 (FC d)
     have G:(a.change ⟨0,1024*L.pages,⟨#[]⟩,true⟩).seen 0=zt (a.seen 0) (1024*L.pages):=by
      rw[Dk.Rj _ _ U,AC rfl];unfold Ch.done;rw[AC rfl];rfl
     obtain⟨Y,Z⟩:=DI1 m h.safe.waits0;obtain⟨ws,V,Q⟩:=m.waits;have W:=m.l1;have N:(a.change ⟨0,1024*L.pages,⟨#[]⟩,true⟩).ok:=Dk.aV S ⟨(show(0:Nat)<2 by omega),(show 1024*L.pages<=67108864 by omega),(show 1024*L.pages+0<=67108864 by omega),λ_=>rfl⟩;generalize aa:a.change ⟨0,1024*L.pages,⟨#[]⟩,true⟩=b at *;by_cases f:b.stops
     ·rw [AC f]
      have eY:b.sync 0=b.turn:=by
       unfold Dk.sync;rw[AC (by decide),AC f]
      refine⟨λj=>absurd j (by show ¬((2:Int)=0\/(2:Int)=11);decide),λ_=>⟨rfl, ?_⟩⟩;show KH mf (b.sync 0) B B;rw[eY];exact kQ h p m.turn (by unfold Dk.turn;rw[AC f]) B
     ·rw [AO f]
      have v:b.sync 0=b.Tc 0:=by
       unfold Dk.sync;rw[AC (by decide),AO f];rfl
      have K:(b.sync 0).l0=zt (a.seen 0) (1024*L.pages):=by
       rw[v];show(if 0=0 then b.seen 0 else b.l0)=_;rw[AC rfl,G]
      have y1:(b.sync 0).l1=L.D.l1:=by
       rw[v];show(if 0=0 then b.l1 else b.seen 1)=_;rw[AC rfl,W]
      have y2:(b.sync 0).waits=L.D.waits:=by
       rw[v];show b.waits.filter (λc=>decide (c.file≠0))=_;rw[V,OT,dI.2 (λc w=>by simp[h.safe.waits0 c w]),VO.2 (λc w=>by simp[(Q c w).1]),GI]
      have y3:(b.sync 0).seen 1=L.D.seen 1:=by
       have:=Ua b 0 (by omega) 1 (by omega);exact this.trans Z
      have O:(b.sync 0).ok:=Dk.Qs N 0
      have vk:Qn B.q (Lc L) L.D.l0 (b.sync 0).l0:=by rw[K,<- G];exact Y
      have vp:∀ n,n<B.q->Lc L n->1024*n+1024<=(b.sync 0).l0.length/\bsOf (Bc (b.sync 0).l0 (1024*n) 1024)=textOf L n:=λn x hf=>by
       obtain⟨c1,c2⟩:=X n (BR _) (by omega) hf;obtain⟨d1,d2⟩:=uG (q:=L.pages) (F:=λ_=>False) (l:=a.seen 0) n (by omega) id c1;rw[K];exact⟨d1,by rw[d2];exact c2⟩
      generalize b.sync 0=D3 at *;obtain⟨a1,a2⟩:=YO0 h p g O y1 y2 y3 vk vp;by_cases j:({ L with D:=D3 }:Lg).Eb 0 L.pages=0
      ·rw [AC j];obtain⟨u,y⟩:=a1 j;refine⟨λ_=>⟨u,BR _,λn x t ht=>?_⟩,λo=>absurd (.inl rfl) o⟩;rw[ht.uniq (z n x)];exact y n x
      ·rw [AO j];obtain⟨u,y⟩:=a2 j;refine⟨λo=>?_,λ_=>⟨u,y⟩⟩;dsimp only at o;rw[u]at o;exact absurd o (by decide)
end Go.Proofs.YtjihboddejaelaaGreat
namespace Go.Proofs.YtjihboddejaelaaGreat
open Go.RowKit Go.BigFrame
def GM.len {R:Value->Option (DataW Unit×List MemPlace)} {w:World} {b c:Nat} {g:Int->Option Nat} {t e:TypeId} (d : Tryz.prog.underlying t=some (.map 3 e)) (h:GM R w b g c) (a:TypeId) :
 (Builtin.len_ #[t] a #[.map (some b)]).run Tryz.prog w = .ok (.int .i64 (c:Int)) w:=by
 obtain⟨D,f,j,i⟩:=h;have:=f.len d a;rw[i]at this;exact this
section
variable {w w':World} {b b':List (Option Nat)} {gd g m1 m2 m1' m2' p e h t:Nat} {A A1 A2:List Nat} {a:Nat} {P:Pl}
def UD(B:List (Option Nat))(w:World)(gd g p e h t:Nat)(A:List Nat)(P:Pl)(v:Value)(a:Ending)(w':World):Prop :=
 a = .returned v/\∃ b' m1' m2',PM w' b' gd g m1' m2' p e h t A P/\Turn B (allB b' g m1' m2' p e h t A) w w'
def tV (H:PM w b gd g m1 m2 p e h t A P) (ok:P.L.ok) (c:Fit P.L.D 1) (n:Int) (s:ByteArray) :
 Calls Tryz.prog 98 #[Cc g,.int .i64 n,.string s] w (UD (allB b g m1 m2 p e h t A) w gd g p e h t A { P with L:=P.L.append n s } (.int .i64 (P.L.Dp n s))):=by
 obtain⟨d,f⟩:=xN ok n s;refine(yY b gd g m1 m2 P.L.rw n s w H.log c (show P.L.fs.length<=_ by have:=ok.len;omega)).mono λo w' a=>?_;rw[<- d,<- f]at a;obtain⟨i,b',m1',m2',j,k⟩:=a.maps;obtain⟨l,m⟩:=H.ZU j k;exact⟨i,b',m1',m2',l,m⟩
def yO(w:World)(b:List (Option Nat))(gd g m1 m2 p e h t a:Nat)(A A':List Nat)(f:Pf)(P:Pl)(c:Ending)(w':World):Prop :=
 c = .returned (.tuple #[])/\PM w' b gd g m1 m2 p e h t A' P/\(∃ x y,Has w' a 166 (JO f x y))/\Turn (allB b g m1 m2 p e h t A) (allB b g m1 m2 p e h t A') w w'
def sN {F1 F2:List Pf} {f:Pf} (H:PM w b gd g m1 m2 p e h t (A1++a :: A2) P) (B:P.ring=F1++f :: F2) (l:A1.length=F1.length) (j:(P.ring.map (·.n)).Nodup) (C:f.n<=4294967296) :
 Calls Tryz.prog 164 #[Cc p,Cc a] w (λs w'=>yO w b gd g m1 m2 p e h t a (A1++a :: A2) (A1++A2) f { P with ring:=F1++F2 } s w'/\Turn (some h :: (e :: (A1++a :: A2)).map some) (some h :: (e :: (A1++a :: A2)).map some) w w'):=by
 have u:=H.ring;have v:=H.held;rw[B]at u v j;refine(AR1 p a e h (WF g e h t P) A1 A2 F1 F2 f _ _ w H.has rfl u l v H.hp C).mono ?_;rintro s w' ⟨D,E,m,F,G,i⟩;rw[aU j l]at m
 have y:∀ k,some k∈(some h :: (e :: (A1++a :: A2)).map some)->some k∈pb p e h t (A1++a :: A2):=λk d=>by
  rw[Fb]
  rcases BI.1 d with d | d
  ·cases d;exact .inr (.inl rfl)
  ·exact .inr (.inr (.inr (Je.1 d)))
 have r:∀ k,some k∈pb p e h t (A1++A2)->some k∈pb p e h t (A1++a :: A2):=λk d=>by
  rw[Fb]at d ⊢
  rcases d with d | d | d | d
  ·exact .inl d
  ·exact .inr (.inl d)
  ·exact .inr (.inr (.inl d))
  ·refine .inr (.inr (.inr ?_));simp only[BI,BO]at d ⊢
   rcases d with d | d | d
   ·exact .inl d
   ·exact .inr (.inl d)
   ·exact .inr (.inr (.inr d))
 have A:¬ some t∈(some h :: (e :: (A1++a :: A2)).map some):=λd=>by
  rcases BI.1 d with d | d
  ·cases d;exact H.ht rfl
  ·exact H.ring.off H.turned (Je.1 d)
 refine⟨⟨D,⟨?_,F,E, ?_, ?_, ?_,H.ht, ?_⟩,G, ?_⟩,i⟩
 ·exact H.log.far i (λk o q=>H.off k q (y k o))
 ·refine GM.congr (c:=(F1++F2).length) ?_ (λx=>(ZS0 (a:=a) j l x).symm)
  have I:(if(some a:Option Nat).isSome then(F1++f :: F2).length-1 else(F1++f :: F2).length)=(F1++F2).length:=by
   rw[AC (show(some a:Option Nat).isSome=true from rfl),A8,A8,DF];omega
  rw[I]at m;exact m
 ·exact H.turned.turn i A
 ·intro z;refine H.hp ?_;simp only[BI,BO]at z ⊢
  rcases z with d | d | d
  ·exact .inl d
  ·exact .inr (.inl d)
  ·exact .inr (.inr (.inr d))
 ·exact λk o q=>H.off k o (r k q)
 ·refine i.wide (λk d=>BC _ (y k d)) (λk d=>.inr ?_)
  rcases BO.1 d with d | d
  ·exact BL _ d
  ·exact BC _ (r k d)
def iE {F1 F2:List Pf} {f:Pf} (H:PM w b gd g m1 m2 p e h t (A1++a :: A2) P) (d:P.ring=F1++f :: F2) (i:A1.length=F1.length) (c:(P.ring.map (·.n)).Nodup) (j:f.n<=4294967296) :
 Calls Tryz.prog 164 #[Cc p,Cc a] w (yO w b gd g m1 m2 p e h t a (A1++a :: A2) (A1++A2) f { P with ring:=F1++F2 }) :=
 (sN H d i c j).mono λk w' h=>h.1
end
def PC1:(Tryz.prog.info? 166).map (λi=>i.size)=some 6:=by kernel_rfl
def EF1:∃ j,Tryz.prog.info? 166 = some j/\j.size≠0:=by
 have h:=PC1
 cases a : Tryz.prog.info? 166 with
 | none=>rw[a]at h;cases h
 | some j=>rw[a]at h;exact⟨j,rfl,by have b:j.size=6:=(by simpa using h);omega⟩
def OU1{w:World}{a b:Nat}{f g:TypeId}{i k:Array Value}(l:Has w a f i)(m:Has w b g k)(c:¬ a=b):(binOp .neq 102 (Cc a) (Cc b)).run Tryz.prog w = .ok (.bool true) w:=by
 obtain⟨j,n,o⟩:=EF1;have p:(⟨a,0,none⟩:Addr)≠⟨b,0,none⟩:=λe=>c (by cases e;rfl)
 have h:∀ d:Nat,(Op.equalIn (d+1) 102 (Cc a) (Cc b)).run Tryz.prog w = .ok false w:=λd=>by
  simp[Op.equalIn,UZ Tryz.underlying102,sizeOf,typeInfo,n,o,run_sameAddr_other w p l m]
 simp only[binOp];simp[Op.equal,Op.maxDepth,h 9999]
def SV0(w:World)(a:Nat):(binOp .neq 102 (Cc a) (Cc a)).run Tryz.prog w = .ok (.bool false) w:=by
 obtain⟨j,b,c⟩:=EF1;exact Lib.run_neq_ptr_same w _ Tryz.underlying102 b
def KF1(A:List Nat)(e:Nat):(A.drop A.length).headD e=e:=by rw[nJ];rfl
def aQ{A:List Nat}{k:Nat}(h:k<A.length):A=A.take k++A[k] :: A.drop (k+1):=by
 rw[<- FQ h,DX]
def BW1{F:List Pf}{k:Nat}(h:k<F.length):F=F.take k++F[k] :: F.drop (k+1):=by
 rw[<- FQ h,DX]
def W9(B:List (Option Nat))(w:World)(gd g p e h t:Nat)(P:Pl)(E:Int)(a:Ending)(w':World):Prop :=
 a = .returned (.int .i64 E)/\∃ b' m1' m2' A',PM w' b' gd g m1' m2' p e h t A' P/\Turn B (allB b' g m1' m2' p e h t A') w w'
def MZ1:Value->Nat
 | .pointer (some a)=>a.block
 | _=>0
def JR1{A1 A2:List Nat}{a e:Nat}(h:(e :: (A1++a :: A2)).Nodup):(A1++a :: A2).length-(A1++a :: A2).idxOf (A2.headD e)<(A1++a :: A2).length-(A1++a :: A2).idxOf a:=by
 rw[FP,CZ,FP]at h;obtain⟨g,m,⟨i,n⟩,d⟩:=h;have j:a∉A1:=λc=>d a c a (AZ ..) rfl
 have k:(A1++a :: A2).idxOf a=A1.length:=by
  rw[List.idxOf_append,AO j,List.idxOf_cons_self];omega
 have o:A1.length<(A1++a :: A2).idxOf (A2.headD e):=by
  rcases A2 with _ |⟨b,A2⟩
  ·rw [show ([]:List Nat).headD e=e from rfl,List.idxOf_eq_length (by simpa using g)];simp
  ·show A1.length<(A1++a :: b :: A2).idxOf b;have l:b∉A1:=λc=>d b c b (BF _ (AZ ..)) rfl;have f:¬ a=b:=λx=>i (x ▸ AZ ..)
   rw[List.idxOf_append,AO l,List.idxOf_cons,FK.2 f];simp;try omega
 have p:(A1++a :: A2).length=A1.length+A2.length+1:=by simp;omega
 rw[k];omega
def wI (b:List (Option Nat)) (gd g m1 m2 p e h t:Nat) (A:List Nat) (P:Pl) (w:World) (H:PM w b gd g m1 m2 p e h t A P) (ok:P.ok) (M:Fit P.L.D 1) :
 Calls Tryz.prog 125 #[.pointer (some ⟨p,0,none⟩)] w (W9 (allB b g m1 m2 p e h t A) w gd g p e h t P.room.1 P.room.2):=by
 have G:=Ac H;have l:=Ac ok;have x0:w.cell? ⟨p,0,none⟩=some (Cc g):=H.has.cell 0;have x1:w.cell? ⟨p,1,none⟩=some (.int .i64 P.most):=H.has.cell 1;have x2:w.cell? ⟨p,2,none⟩=some (Cc e):=H.has.cell 2;have x3:w.cell? ⟨p,3,none⟩=some (.map (some h)):=H.has.cell 3;obtain⟨q0,N⟩:∃ q,A.headD e=q:=⟨_,rfl⟩
 have e5:w.cell? ⟨e,5,none⟩=some (Cc q0):=by rw[<- N];exact H.ring.ends.cell 5
 have ab:=Ac N;clear N;have al:=(H.held.block (w':=w.drew) rfl).len XO 3;have AL:=Ac H.ring.len;have an:=Ac M;by_cases O:P.ring.length<P.most
 ·have v:P.room=(P,0):=AC O;rw[v];clear v H ok M;go_enter Tryz.func125,Tryz.ntmps125
  go_wp2_with fail
  go_region
  go_wp2_with fail
  go_ret;exact⟨rfl,b,m1,m2,A,G.below ((AU _ _).drew),Turn.below _ ((AU _ _).drew)⟩
 ·have v:P.room=match idle P.ring with | none=>(P,6) | some f=>P.Io f:=AO O
  have HR:=Ac v;have HD:=Ac (H.below ((AU w.heap.size w).drew));have ac:Below w.heap.size w w.drew:=(AU w.heap.size w).drew;have ND:=Ac H.ring.nodup;clear v H ok M;go_enter Tryz.func125,Tryz.ntmps125
  go_wp2_with fail
  go_region
  go_wp2_with fail
  clear al x1 O
  go_loop [3] (λU=>∃ k y:Nat,k<=A.length/\U=Cc y/\Hid ((A.drop k).headD e=y)/\∀ f∈P.ring.take k,f.pins≠0) (λU=>A.length-A.idxOf (MZ1 U))
  case atStart=>exact⟨0,q0,BR _,rfl,ab,λf V=>by simp at V⟩
  case round =>
   obtain⟨k,y,hk,rfl,W,aa⟩:=hrel;have ad:=Ac aa;clear aa;by_cases h1:k<A.length
   ·have ae:k<P.ring.length:=by have:=AL.out;omega
    obtain⟨F1,f,F2,z,Q⟩:∃ F1 f F2,P.ring=F1++f :: F2/\F1.length=k:=⟨P.ring.take k,P.ring[k],P.ring.drop (k+1),BW1 ae,by rw[CU];omega⟩
    obtain⟨A1,a,A2,hA,C⟩:∃ A1 a A2,A=A1++a :: A2/\A1.length=k:=⟨A.take k,A[k],A.drop (k+1),aQ h1,by rw[CU];omega⟩
    subst hA;have X:A1.length=F1.length:=C.trans Q.symm
    have hd:((A1++a :: A2).drop k).headD e=a:=by rw[<- C,dL];rfl
    obtain rfl:a=y:=hd.symm.trans W.out;have I:=G.ring;rw[z]at I;have d:=I.at X;have af:∀ g∈F1,g.pins≠0:=λg hg=>ad g (by rw[z,<- Q,PV];exact hg);have ag:¬ a=e:=λx=>(FP.1 I.nodup).1 (x ▸ BC _ (AZ ..))
    have a0:w.cell? ⟨a,0,none⟩=some (.int .i64 f.n):=d.cell 0;have a1:w.cell? ⟨a,1,none⟩=some (.string f.s):=d.cell 1;have J:w.cell? ⟨a,2,none⟩=some (.int .i64 f.pins):=d.cell 2;have Y:w.cell? ⟨a,3,none⟩=some (.bool f.dirty):=d.cell 3;obtain⟨m,R⟩:∃ m,A2.headD e=m:=⟨_,rfl⟩
    have a5:w.cell? ⟨a,5,none⟩=some (Cc m):=by rw[<- R];exact d.cell 5
    have ah:=Ac R;have am:=OU1 (w:=w.drew) d G.ring.ends ag;have FN:=Ac (show f.n<=4294967296 by have:=l.pages f (by rw[z];exact BC _ (AZ ..));have:=l.few;omega);have B:=Ac z;have Z:=Ac X;have S:=Ac C;have ai:=Ac af;clear z X hd I d af ae h1 Q C R ag W ab;by_cases F:f.pins=0
    ·rw [F] at J;have J:w.cell? ⟨a,2,none⟩=some (.int .i64 0):=J
     have HI:Hid (P.room=P.Io f):=by
      have:=HR.out;rw[B.out,OD1 ai.out F]at this;exact this
     have aj:=Ac (show Ns f.n P.ring=F1++F2 by have:=l.names;rw[B.out]at this ⊢;exact Uj this);clear F
     cases i:f.dirty
     ·rw [i] at Y;have LV:=Ac (iE HD B Z l.names FN)
      have c:Hid (P.room=({ P with ring:=F1++F2 },0)):=by
       rw[HI.out];unfold Pl.Io;rw[i,aj.out];rfl
      clear i
      go_wp2_with (go_at_call 164;refine LV.mono ?_;rintro e2 w1 ⟨rfl,j,_,o⟩)
      go_ret;rw[c.out];exact⟨rfl,b,m1,m2,A1++A2,j,(Turn.below _ ac).trans o⟩
     ·rw [i] at Y
      obtain⟨E,hE⟩:∃ E,P.L.Dp f.n f.s=E:=⟨_,rfl⟩
      have AP:=Ac (λu (hb:Below w.heap.size w u)=>tV (G.below hb) l.log an f.n f.s);have ao:=Ac (λu (hb:Below w.heap.size w u)=>Turn.below (allB b g m1 m2 p e h t (A1++a :: A2)) hb);rw[hE]at AP
      have c:Hid (P.room=if E=0 then({ P with L:=P.L.append f.n f.s,spills:=wrap64 (P.spills+1),ring:=F1++F2 },0)else({ P with L:=P.L.append f.n f.s },E)):=by
       rw[HI.out];unfold Pl.Io;rw[i,aj.out,hE];rfl
      clear i hE
      go_wp2_with fail
      go_region_with (go_at_call 98;refine(AP _ (by repeat(first | exact AU _ _ | refine LJ ?_))).mono ?_;rintro e2 w1 ⟨rfl,b1,n1,n2,j,o⟩)
      all_goals
       have K:=Ac j;have HT:=Ac ((ao _ ((((AU w.heap.size w).drew)).drew)).trans o);clear j o x0 x2 x3 e5 a0 a1 J Y a5;by_cases ak:E=0
       ·subst ak;have T:=Ac (c.trans (AC rfl));clear c;have y9:w1.cell? ⟨p,9,none⟩=some (.int .i64 P.spills):=K.has.cell 9;have yf:=K.has.frozen;have ST:=Ac (K.set (P':={ P with L:=P.L.append f.n f.s,spills:=wrap64 (P.spills+1) }) 9 (.int .i64 (wrap64 (P.spills+1))) rfl rfl rfl rfl);have LV:=Ac (iE ST.1 B Z l.names FN)
        go_wp2_with (go_at_call 164;refine LV.mono ?_;rintro e2 w2 ⟨rfl,j,_,o⟩)
        go_ret;rw[T.out];exact⟨rfl,b1,n1,n2,A1++A2,j,(HT.trans ST.2).trans o⟩
       ·have T:=Ac (c.trans (AO ak));clear c
        go_wp2_with fail
        go_ret;rw[T.out];exact⟨rfl,b1,n1,n2,A1++a :: A2,K,HT⟩
    ·have g0:(0:Int)<(f.pins:Int):=by omega
     go_wp2_with fail
     go_round
     case rel =>
      refine⟨k+1,m, ?_,rfl, ?_,λx r=>?_⟩
      ·rw[A8,DF,<- S.out];omega
      ·show ((A1++a :: A2).drop (k+1)).headD e=m;rw[<- S.out,show(A1++a :: A2).drop (A1.length+1)=A2 by rw[nK];simp];exact ah
      ·rw [B.out,show k+1=(F1++[f]).length by rw [A8,JB];have:=Z.out;have:=S.out;omega,show F1++f :: F2=(F1++[f])++F2 by simp,PV] at r
       rcases BO.1 r with r | r
       ·exact ai x r
       ·rw[BH.1 r];exact F
     case measure =>
      show(A1++a :: A2).length-(A1++a :: A2).idxOf m<(A1++a :: A2).length-(A1++a :: A2).idxOf a;rw[<- ah.out];exact JR1 ND
   ·have ap:k=A.length:=by omega
    subst ap;obtain rfl:e=y:=(KF1 A e).symm.trans W.out;have am:=SV0 w.drew e
    have c:Hid (P.room=(P,6)):=by
     have:=HR.out;rw[DS1 (λf V=>ad.out f (by rw[EE (by have:=AL.out;omega)];exact V))]at this;exact this
    go_wp2_with fail
    go_ret;rw[c.out];exact⟨rfl,b,m1,m2,A,HD,Turn.below _ ac⟩
section
variable {w w':World} {b b':List (Option Nat)} {gd g m1 m2 m1' m2' p e h t:Nat} {A A1 A2:List Nat} {a:Nat} {P:Pl}
def CN1 (H:PM w b gd g m1 m2 p e h t A P) (ok:P.L.ok) (x:Int) :
 Calls Tryz.prog 123 #[Cc g,.int .i64 x] w λa w'=>a = .returned (.tuple #[.string (P.L.rw.Fa x),.int .i64 (P.L.rw.Dy x)])/\w=w' :=
 qX b gd g m1 m2 P.L.rw x w H.log ok.disk (show Aw P.L.fs x<=_ by have:=Wv P.L.fs x;have:=ok.len;omega)
def FH1(w:World)(b:List (Option Nat))(gd g m1 m2 p e h t a:Nat)(A:List Nat)(P:Pl)(c:Ending)(w':World):Prop :=
 c = .returned (Cc a)/\PM w' b gd g m1 m2 p e h t (A++[a]) P/\Turn (some a :: allB b g m1 m2 p e h t A) (allB b g m1 m2 p e h t (A++[a])) w w'
def GP0{k:Nat}:some k∈pb p e h t (A++[a])↔k=a\/some k∈pb p e h t A:=by
 rw[Fb,Fb];simp only[BI,BO,BH,PY,OC];constructor
 ·rintro(h | h | h | h | h | h) <;> simp[h]
 ·rintro(h | h | h | h | h | h) <;> simp[h]
def fH {f:Pf} {B C:Value} (H:PM w b gd g m1 m2 p e h t A P) (J:Has w a 166 #[.int .i64 f.n,.string f.s,.int .i64 f.pins,.bool f.dirty,B,C]) (v:some a∉allB b g m1 m2 p e h t A)
 (D:∀ q∈P.ring,(q.n:Int)≠(f.n:Int)) (N:P.ring.length<=1000) (F:f.n<=4294967296) :
 Calls Tryz.prog 126 #[Cc p,Cc a] w (FH1 w b gd g m1 m2 p e h t a A { P with ring:=P.ring++[f] }):=by
 have y:some a∉b++lb g m1 m2:=λj=>v (BL _ j);have r:some a∉pb p e h t A:=λj=>v (BC _ j);have z:¬ p=a:=λx=>r (Fb.2 (.inl x.symm));have G:a∉e :: A:=λx=>r (Fb.2 (.inr (.inr (.inr x))));have I:¬ t=a:=λx=>r (Fb.2 (.inr (.inr (.inl x.symm))));refine(FY1 p a e h (WF g e h t P) A P.ring f B C _ _ w H.has rfl rfl H.ring J G H.held H.hp z (by omega) F).mono ?_;rintro O w' ⟨K,L,j,M,u⟩;rw[Jp D]at j
 have E:∀ k,some k∈(some a :: some h :: (e :: A).map some)->k=a\/some k∈pb p e h t A:=λk d=>by
  rcases BI.1 d with d | d
  ·cases d;exact .inl rfl
  ·rcases BI.1 d with d | d
   ·cases d;exact .inr (Fb.2 (.inr (.inl rfl)))
   ·exact .inr (Fb.2 (.inr (.inr (.inr (Je.1 d)))))
 refine⟨K,⟨?_,M,L, ?_, ?_, ?_,H.ht, ?_⟩, ?_⟩
 ·refine H.log.far u (λk l o=>?_)
  rcases E k l with rfl | i
  ·exact y o
  ·exact H.off k o i
 ·refine GM.congr (c:=(P.ring++[f]).length) ?_ (λx=>(VL0 H.ring.len D x).symm);rw[A8,JB];exact j
 ·refine H.turned.turn u (λl=>?_)
  rcases BI.1 l with d | d
  ·cases d;exact I rfl
  ·rcases BI.1 d with d | d
   ·cases d;exact H.ht rfl
   ·exact H.ring.off H.turned (Je.1 d)
 ·intro m;rw[<- F7]at m
  rcases BO.1 m with m | m
  ·exact H.hp m
  ·exact z (BH.1 m)
 ·intro k l o
  rcases GP0.1 o with rfl | i
  ·exact y l
  ·exact H.off k l i
 ·refine u.wide (λk d=>?_) (λk d=>.inr ?_)
  ·rcases E k d with rfl | i
   ·exact AZ ..
   ·exact BF _ (BC _ i)
  ·rcases BO.1 d with d | d
   ·exact BF _ (BL _ d)
   ·rcases GP0.1 d with rfl | i
    ·exact AZ ..
    ·exact BF _ (BC _ i)
def PM.beside{j:Pl}{k:TypeId}{cs:Array Value}(H:PM w b gd g m1 m2 p e h t (A1++a :: A2) P)(f:PM w' b gd g m1 m2 p e h t (A1++A2) j)(i:Has w' a k cs):some a∉allB b g m1 m2 p e h t (A1++A2):=by
 have d:a∈e :: (A1++a :: A2):=BF _ (BC _ (AZ ..));intro c
 rcases BO.1 c with c | c
 ·exact H.off a c (Fb.2 (.inr (.inr (.inr d))))
 ·rcases Fb.1 c with rfl | rfl | rfl | c
  ·exact H.hp d
  ·exact f.held.Gx i
  ·exact f.turned.Gx i
  ·have nd:=H.ring.nodup;rw[FP,CZ,FP]at nd;obtain⟨l,n,⟨n2,o⟩,m⟩:=nd
   rcases BI.1 c with rfl | c
   ·exact l (BC _ (AZ ..))
   ·rcases BO.1 c with c | c
    ·exact m a c a (AZ ..) rfl
    ·exact n2 c
end
def Z7{b:List (Option Nat)}{w w':World}(d:Below w.heap.size w w'){a:Nat}(e:w.heap.size<=a):Turn b (some a :: b) w w' :=
 ⟨d.os,d.tape,d.output,d.size,λk c _=>d.block k c,λk c=>by
   rcases BI.1 c with c | c
   ·cases c;exact .inr e
   ·exact .inl c⟩
def GetPost(B:List (Option Nat))(w:World)(gd g p e h t:Nat)(P:Pl)(E:Int)(b:Ending)(w':World):Prop :=
 ∃ b' m1' m2' A',PM w' b' gd g m1' m2' p e h t A' P/\Turn B (allB b' g m1' m2' p e h t A') w w'/\((E≠0/\b = .returned (.tuple #[.pointer none,.int .i64 E]))\/(E=0/\∃ c a,A'=c++[a]/\b = .returned (.tuple #[Cc a,.int .i64 0])))
def QJ(x:Int):Prop:=-9223372036854775808<=x/\x<=9223372036854775807
def iH (b:List (Option Nat)) (gd g m1 m2 p e h t:Nat) (A:List Nat) (P:Pl) (x:Int) (hx:QJ x) (w:World) (H:PM w b gd g m1 m2 p e h t A P) (ok:P.ok) (I:Fit P.L.D 1) :
 Calls Tryz.prog 97 #[.pointer (some ⟨p,0,none⟩),.int .i64 x] w (GetPost (allB b g m1 m2 p e h t A) w gd g p e h t (P.get x).1 (P.get x).2):=by
 have HP:=Ac H;have OK:=Ac ok;have Q:=Ac (KU hx.1 hx.2);have x0:w.cell? ⟨p,0,none⟩=some (Cc g):=H.has.cell 0;have x3:w.cell? ⟨p,3,none⟩=some (.map (some h)):=H.has.cell 3;have x4:w.cell? ⟨p,4,none⟩=some (.int .i64 P.pages):=H.has.cell 4;have x7:w.cell? ⟨p,7,none⟩=some (.int .i64 P.hits):=H.has.cell 7;have xf:=H.has.frozen;by_cases X:0<=x/\x<(P.pages:Int)
 ·obtain ⟨i0,i1⟩:=X
  have g0:¬ x<0:=by omega
  have g1:¬(P.pages:Int)<=x:=by omega
  have HG:=Ac (show P.get x=match NQ x P.ring with | some f=>({ P with hits:=wrap64 (P.hits+1),ring:=Ns f.n P.ring++[f] },0) | none=>if P.room.2=0 then P.room.1.fetch x.toNat else P.room from AC ⟨i0,i1⟩)
  cases y:NQ x P.ring with
  | some f =>
    obtain⟨F1,F2,m,ag,J⟩:=kX y;have al:=H.ring.len
    obtain⟨A1,a,A2,hA,hl⟩:∃ A1 a A2,A=A1++a :: A2/\A1.length=F1.length:=by
     have l:F1.length<A.length:=by rw[al,m];simp
     exact⟨A.take F1.length,A[F1.length],A.drop (F1.length+1),aQ l,by rw[CU];omega⟩
    subst hA;have z:=ok.names
    have S:Hid (P.get x=({ P with hits:=wrap64 (P.hits+1),ring:=(F1++F2)++[f] },0)):=by
     have:=HG.out;rw[y]at this
     have hd:Ns f.n P.ring=F1++F2:=by rw[m]at z ⊢;exact Uj z
     dsimp only at this;rw[hd]at this;exact this
    have K:Hid (MN (Dl (A1++a :: A2) P.ring x)=Cc a):=by
     rw[<- ag,m,aU (by rw[<- m];exact z) hl];rfl
    have FN:f.n<=4294967296:=by have:=ok.pages f (by rw[m];exact BC _ (AZ ..));have:=ok.few;omega
    have ST:=Ac (H.set (P':={ P with hits:=wrap64 (P.hits+1) }) 7 (.int .i64 (wrap64 (P.hits+1))) rfl rfl rfl rfl);have LV:=Ac (iE ST.1 m hl z FN);have M:=Ac H.held;have r:=Ac m;have NM:=Ac (Fz (show((F1++f :: F2).map (·.n)).Nodup by rw[<- m];exact z));have FL:=Ac (show(F1++F2).length<=1000 by have T:=ok.full;have h2:=ok.most;rw[m]at T;simp at T ⊢;omega)
    have Y:=Ac (λ(w1:World) (va vb:Value) (ah:PM w1 b gd g m1 m2 p e h t (A1++A2) { P with hits:=wrap64 (P.hits+1),ring:=F1++F2 }) (U:Has w1 a 166 #[.int .i64 f.n,.string f.s,.int .i64 f.pins,.bool f.dirty,va,vb]) =>
     fH ah U (ST.1.beside ah U) (λq B=>(BO.1 B).elim (NM.1 q) (NM.2.1 q)) FL FN)
    clear m ag J y z al hl H ok I FN;go_enter XT,XP
    go_wp2_with (first
     |(at_lookup;refine Dv _ rfl _ _ rfl h _ (Dl (A1++a :: A2) P.ring) rfl M x rfl Q ?_;rw[K.out])
     |(go_at_call 164;refine LV.mono ?_;rintro u w1 ⟨rfl,j,⟨va,vb,U⟩,v⟩)
     |(go_at_call 126;refine(Y _ _ _ j U).mono ?_;rintro u w2 ⟨rfl,W,Z⟩))
    go_ret2;rw[S.out];refine⟨b,m1,m2,_,W, ?_,.inr ⟨rfl,_,a,rfl,rfl⟩⟩;refine((ST.2.trans v).wide (c:=allB b g m1 m2 p e h t (A1++a :: A2)) (c':=some a :: allB b g m1 m2 p e h t (A1++A2)) (λk l=>l) (λk l=>?_)).trans Z
    rcases BI.1 l with l | l
    ·cases l;exact .inr (BC _ (Fb.2 (.inr (.inr (.inr (BF _ (BC _ (AZ ..))))))))
    ·exact .inl l
  | none =>
    have J:=aX y
    obtain⟨n,rfl⟩:∃ n:Nat,x=n:=⟨x.toNat,by omega⟩
    have K:Hid (MN (Dl A P.ring n) = .pointer none):=by rw[Jp J];rfl
    have M:=Ac H.held;have N:=Ac (wI b gd g m1 m2 p e h t A P w H ok I);have C:=Ac (WH ok);have RS:=Ac (Lj (P:=P));have aj:=Ac J;have F:=HG.out;rw[y]at F;dsimp only at F;obtain⟨R,hR⟩:∃ R,P.room.1=R:=⟨_,rfl⟩;obtain⟨E,hE⟩:∃ E,P.room.2=E:=⟨_,rfl⟩
    have ai:P.room=(R,E):=by rw[<- hR,<- hE]
    rw[ai]at N C RS F;dsimp only at N C RS F;have O:=Ac F;clear y J hR hE ai F HG H ok I i0 i1;by_cases aa:E=0
    ·subst aa
     obtain⟨G,ab⟩:∃ G,R.L.rw.Dy n=G:=⟨_,rfl⟩;obtain⟨o,ac⟩:∃ o,R.L.rw.Fa n=o:=⟨_,rfl⟩
     have RD:Hid (∀(w1:World) d i n2 A1,PM w1 d gd g i n2 p e h t A1 R->Calls Tryz.prog 123 #[Cc g,.int .i64 (n:Int)] w1 λV w'=>V = .returned (.tuple #[.string o,.int .i64 G])/\w1=w'):=λw1 d i n2 A1 B=>by
      have:=CN1 B C.1.log n;rw[ab,ac]at this;exact this
     have r:Hid (P.get n=if G=0 then({ R with misses:=wrap64 (R.misses+1),ring:=R.ring++[⟨n,o,0,false⟩] },0)else(R,G)):=by
      have:=O.out;rw[AC rfl]at this;rw[this];unfold Pl.fetch;rw[IR,ab,ac];exact Ac rfl
     clear ab ac O;by_cases ad:G=0
     ·subst ad;have ae:=Ac (r.trans (AC rfl));clear r
      have Y:Hid (∀ (w1:World) d i n2 A1,PM w1 d gd g i n2 p e h t A1 R ->
       Calls Tryz.prog 126 #[Cc p,Cc w1.heap.size] ((w1.setCell ⟨p,8,none⟩ (.int .i64 (wrap64 (R.misses+1)))).alloc (.cells #[.int .i64 (n:Int),.string o,.int .i64 0,.bool false,.pointer none,.pointer none] 166))
        (λV w'=>V = .returned (Cc w1.heap.size)/\PM w' d gd g i n2 p e h t (A1++[w1.heap.size]) { R with misses:=wrap64 (R.misses+1),ring:=R.ring++[⟨n,o,0,false⟩] }/\Turn (allB d g i n2 p e h t A1) (allB d g i n2 p e h t (A1++[w1.heap.size])) w1 w')):=λw1 d i n2 A1 B=>by
       obtain⟨s1,s2⟩:=B.set (P':={ R with misses:=wrap64 (R.misses+1) }) 8 (.int .i64 (wrap64 (R.misses+1))) rfl rfl rfl rfl;have hb:Below (w1.setCell ⟨p,8,none⟩ (.int .i64 (wrap64 (R.misses+1)))).heap.size (w1.setCell ⟨p,8,none⟩ (.int .i64 (wrap64 (R.misses+1)))) ((w1.setCell ⟨p,8,none⟩ (.int .i64 (wrap64 (R.misses+1)))).alloc (.cells #[.int .i64 (n:Int),.string o,.int .i64 0,.bool false,.pointer none,.pointer none] 166)):=(AU _ _).alloc (AY _) _
       have hz:(w1.setCell ⟨p,8,none⟩ (.int .i64 (wrap64 (R.misses+1)))).heap.size=w1.heap.size:=by simp
       have af:=Has.new (w1.setCell ⟨p,8,none⟩ (.int .i64 (wrap64 (R.misses+1)))) 166 #[.int .i64 (n:Int),.string o,.int .i64 0,.bool false,.pointer none,.pointer none];rw[hz]at af;have an:=C.2 rfl;refine(fH (f:=⟨n,o,0,false⟩) (s1.below hb) af (λl=>?_) (λq ak=>aj q (RS.2.2.2.2 q ak)) ?_ ?_).mono ?_
       ·have:=B.lt _ l;omega
       ·show R.ring.length<=1000;have:=OK.most;have:=C.1.full;have:=C.1.most;omega
       ·show n<=4294967296;have:=OK.few;omega
       ·rintro V w' ⟨he,T,h2⟩;refine⟨he,T,(s2.trans (Z7 hb (a:=w1.heap.size) (by rw[hz];exact AY _))).trans h2⟩
      go_enter XT,XP
      go_wp2_with (first
       |(at_lookup;refine Dv _ rfl _ _ rfl h _ (Dl A P.ring) rfl M n rfl Q ?_;rw[K.out])
       |(go_at_call 125;refine N.mono ?_;rintro u w1 ⟨rfl,d,i,n2,A1,j,v⟩;have y0:w1.cell? ⟨p,0,none⟩=some (Cc g):=j.has.cell 0;have y8:w1.cell? ⟨p,8,none⟩=some (.int .i64 R.misses):=j.has.cell 8;have yf:=j.has.frozen)
       |(go_at_call 123;refine(RD _ _ _ _ _ j).mono ?_;rintro u w2 ⟨rfl,rfl⟩)
       |(go_at_call 126;refine(Y _ _ _ _ _ j).mono ?_;rintro u w2 ⟨rfl,W,Z⟩))
      go_ret2;rw[ae.out];exact⟨d,i,n2,_,W,v.trans Z,.inr ⟨rfl,_,_,rfl,rfl⟩⟩
     ·have ae:=Ac (r.trans (AO ad));clear r;go_enter XT,XP
      go_wp2_with (first
       |(at_lookup;refine Dv _ rfl _ _ rfl h _ (Dl A P.ring) rfl M n rfl Q ?_;rw[K.out])
       |(go_at_call 125;refine N.mono ?_;rintro u w1 ⟨rfl,d,i,n2,A1,j,v⟩;have y0:w1.cell? ⟨p,0,none⟩=some (Cc g):=j.has.cell 0)
       |(go_at_call 123;refine(RD _ _ _ _ _ j).mono ?_;rintro u w2 ⟨rfl,rfl⟩))
      go_ret2;rw[ae.out];exact⟨d,i,n2,A1,j,v,.inl ⟨ad,rfl⟩⟩
    ·have r:Hid (P.get n=(R,E)):=by
      have:=O.out;rw[AO aa]at this;exact this
     clear O;go_enter XT,XP
     go_wp2_with (first
      |(at_lookup;refine Dv _ rfl _ _ rfl h _ (Dl A P.ring) rfl M n rfl Q ?_;rw[K.out])
      |(go_at_call 125;refine N.mono ?_;rintro u w1 ⟨rfl,d,i,n2,A1,j,v⟩))
     go_ret2;rw[r.out];exact⟨d,i,n2,A1,j,v,.inl ⟨aa,rfl⟩⟩
 ·have S:Hid (P.get x=(P,7)):=AO X;clear H ok I;by_cases g0:x<0
  ·go_enter XT,XP
   go_wp2_with fail
   go_ret2;rw[S.out];exact⟨b,m1,m2,A,HP,Turn.refl _ _,.inl ⟨(by show(7:Int)≠0;decide),rfl⟩⟩
  ·have g1:(P.pages:Int)<=x:=by omega
   clear X;go_enter XT,XP
   go_wp2_with fail
   go_ret2;rw[S.out];exact⟨b,m1,m2,A,HP,Turn.refl _ _,.inl ⟨(by show(7:Int)≠0;decide),rfl⟩⟩
open Go.Maps
def kW{L:Lg}{k:Nat}(h:Fit L.D (k+1))(n:Int)(t:ByteArray):Fit (L.append n t).D k:=by
 unfold Lg.append
 split
 ·exact h.write _ _ _
 ·exact h.less (by omega)
section
variable {D:Dk} {k:Nat}
def KE1{L:Lg}(h:Fit L.D (k+2))(f p:Nat):Fit (L.tell f p).D k:=by
 have a:Fit (L.Cf f p) (k+1):=h.write _ _ _;unfold Lg.tell
 split
 ·exact a.less (by omega)
 ·have b:Fit ((L.Cf f p).sync 1) k:=a.sync 1
  split
  ·exact b
  ·exact b
def kR{L:Lg}(h:Fit L.D (k+4))(n:Int)(t:ByteArray)(p:Int):Fit (L.Bi n t p).D k:=by
 have a:Fit (L.append n t).D (k+3):=kW h n t;have b:Fit ((L.append n t).D.sync 1) (k+2):=a.sync _;unfold Lg.Bi
 split
 ·split
  ·split
   ·exact b.less (by omega)
   ·exact KE1 (L:={ L.append n t with D:=(L.append n t).D.sync 1 }) b _ _
  ·exact a.less (by omega)
 ·exact h.less (by omega)
def yR(h:Fit D (k+4)):Fit (Lg.opened D).D k:=by
 unfold Lg.opened
 split
 ·have b:Fit (D.Fp 1 0) (k+3):=h.cut _ _;have c:Fit ((D.Fp 1 0).sync 1) (k+2):=b.sync _;have d:Fit (((D.Fp 1 0).sync 1).write 1 0 (bsOf (Jb++slotL 1 0 ((D.seen 0).length / 1024)))) (k+1):=c.write _ _ _;have a:Fit (Ti D) k:=d.sync 1;generalize Ti D=X at a ⊢;exact a
 ·exact h.less (by omega)
def VE0(h:D.calm):(Lg.opened D).D.calm:=by
 unfold Lg.opened
 split
 ·have a:(Ti D).calm:=(((h.cut 1 0).sync 1).write 1 0 (bsOf (Jb++slotL 1 0 ((D.seen 0).length / 1024)))).sync 1;generalize Ti D=X at a ⊢;exact a
 ·exact h
def fV:Fit Dk.new 30000000:=⟨Dk.OX1,by decide,by decide⟩
end
end Go.Proofs.YtjihboddejaelaaGreat
namespace Go.Proofs.YtjihboddejaelaaGreat
open Go.RowKit Go.BigFrame
section
variable {w w':World} {b b':List (Option Nat)} {gd g m1 m2 m1' m2' p e h t:Nat} {A A1 A2:List Nat} {a:Nat} {P:Pl}
def PM.frame {F1 F2:List Pf} {f f':Pf} (H:PM w b gd g m1 m2 p e h t (A1++a :: A2) P) (j:P.ring=F1++f :: F2) (d:A1.length=F1.length) (i:Nat) (v:Value) (A:f'.n=f.n) (B:∀ x y,(JO f x y).setIfInBounds i v=JO f' x y) :
 PM (w.setCell ⟨a,i,none⟩ v) b gd g m1 m2 p e h t (A1++a :: A2) { P with ring:=F1++f' :: F2 }/\Turn (allB b g m1 m2 p e h t (A1++a :: A2)) (allB b g m1 m2 p e h t (A1++a :: A2)) w (w.setCell ⟨a,i,none⟩ v):=by
 have l:a∈e :: (A1++a :: A2):=BF _ (BC _ (AZ ..));have o:some a∈pb p e h t (A1++a :: A2):=Fb.2 (.inr (.inr (.inr l)));have c:=H.ring;rw[j]at c;have m:=c.at d;have nd:=c.nodup;rw[FP,CZ,FP]at nd;obtain⟨C,L,⟨n2,M⟩,D⟩:=nd;have r:¬ e=a:=λx=>C (x ▸ BC _ (AZ ..));have s:¬ p=a:=λx=>H.hp (x ▸ l)
 have u:¬ h=a:=λx=>by subst x;exact H.held.Gx m
 have z:¬ t=a:=λx=>by subst x;exact H.turned.Gx m
 have E:=Eu [some a] a i v w (BH.2 rfl);refine⟨⟨?_,H.has.far s v,⟨c.nodup,c.ends.far r v, ?_⟩, ?_,H.turned.far z v,H.hp,H.ht,H.off⟩,Eu _ a i v w (BC _ o)⟩
 ·exact H.log.far E (λk F G=>by cases BH.1 F;exact H.off a G o)
 ·exact MY1 c.row d (λx=>D a x a (AZ ..) rfl) n2 (λx I=>CX _ _ _ _ I) (λx y J=>by have:=J.set i v;rw[B]at this;exact this)
 ·have K:=H.held.far (p:=⟨a,i,none⟩) u v
  have q:(F1++f' :: F2).length=P.ring.length:=by rw[j];simp
  show GM Nj _ h (Dl _ (F1++f' :: F2)) (F1++f' :: F2).length;rw[q];refine K.congr λx=>?_;rw[j,Kt d,Kt d,Dl,Dl,A]
def AO1(n:Nat)(T:List Nat)(x:Int):Pj (Vq n T) x=if x=n then some 1 else Pj T x:=by
 unfold Vq;by_cases b:x=n
 ·subst b;rw[AC rfl];unfold Pj;rw[AC]
  split
  ·rename_i h;exact⟨n,h,rfl⟩
  ·exact⟨n,AZ ..,rfl⟩
 ·rw [AO b]
  split
  ·rfl
  ·unfold Pj
   have:(∃ m∈n :: T,(m:Int)=x)↔∃ m∈T,(m:Int)=x:=by
    constructor
    ·rintro ⟨m,a,e⟩
     rcases BI.1 a with rfl | a
     ·exact absurd e.symm b
     ·exact⟨m,a,e⟩
    ·rintro⟨m,a,e⟩;exact⟨m,BF _ a,e⟩
   simp only[this]
def UA0(n:Nat)(T:List Nat):(Pj T n).isSome=decide (n∈T):=by
 unfold Pj;by_cases a:n∈T
 ·rw[AC ⟨n,a,rfl⟩,EW a];rfl
 ·rw [AO,EY a]
  ·rfl
  ·rintro ⟨m,b,e⟩
   have:m=n:=by omega
   exact a (this ▸ b)
def PM.tell {n:Nat} (H:PM w b gd g m1 m2 p e h t A P) (d:GM (plainElem Tryz.prog 3) w' t (λz=>if z=(n:Int) then some 1 else Pj P.turned z) (if (Pj P.turned n).isSome then P.turned.length else P.turned.length+1)) (a:w.grownBy w' (some t)) :
 PM w' b gd g m1 m2 p e h t A { P with turned:=Vq n P.turned }/\Turn (allB b g m1 m2 p e h t A) (allB b g m1 m2 p e h t A) w w':=by
 have c:some t∈pb p e h t A:=Fb.2 (.inr (.inr (.inl rfl)));have f:=Xx a (BH.2 rfl:some t∈[some t])
 have j:¬ p=t:=λx=>by subst x;exact H.turned.Gx H.has
 have l:=H.ring.off H.turned;refine⟨⟨?_,H.has.grown a (λx=>j (CV x)),H.ring.grown a (λx m y=>l (CV y ▸ m)),H.held.turn f (λx=>H.ht (CV (BH.1 x))), ?_,H.hp,H.ht,H.off⟩,Xx a (BC _ c)⟩
 ·exact H.log.far f (λk o q=>by cases BH.1 o;exact H.off t q c)
 ·have r:(if(Pj P.turned n).isSome then P.turned.length else P.turned.length+1)=(Vq n P.turned).length:=by
   rw[UA0];unfold Vq;by_cases i:n∈P.turned
   ·simp[i]
   ·simp[i]
  rw[r]at d;exact d.congr λx=>(AO1 n P.turned x).symm
end
def Qb{P:Pl}(ok:P.ok){x:Int}(h:(P.get x).2=0):∃ g f,(P.get x).1.ring=g++[f]/\(f.n:Int)=x/\0<=x/\x<(P.pages:Int):=by
 unfold Pl.get at h ⊢
 split
 ·rename_i a;rw[AC a]at h
  split
  ·rename_i f c;obtain⟨F1,F2,e,i,j⟩:=kX c;exact⟨_,f,rfl,i,a.1,a.2⟩
  ·rename_i c;rw[c]at h;dsimp only at h
   split
   ·rename_i b;rw[AC b]at h;unfold Pl.fetch at h ⊢
    split
    ·exact⟨_,_,rfl,OU a.1,a.1,a.2⟩
    ·rename_i d;rw[AO d]at h;exact absurd h d
   ·rename_i b;rw[AO b]at h;exact absurd h b
 ·rename_i a
  rw[AO a]at h;cases h
def Xq{P:Pl}{a:List Pf}{f:Pf}(h:P.ring=a++[f]):P.Pv=f/\∀ f',P.setLast f'={ P with ring:=a++[f'] }:=by
 unfold Pl.Pv Pl.setLast;rw[h];exact⟨by simp,λf'=>by simp⟩
def Ux:∀ (n:Nat) (T:List Nat),T.Nodup->(∀ x∈T,x<n)->T.length<=n
 | 0,T,_,h=>by
   cases T with
   | nil=>exact AY _
   | cons x t=>exact absurd (h x (AZ ..)) (by omega)
 | n+1,T,hn,h=>by
   have a:=Ux n (T.erase n) (hn.erase n) (λx b=>by
    have c:=h x (List.mem_of_mem_erase b)
    have d:x≠n:=λe=>by subst e;exact(hn.mem_erase_iff.1 b).1 rfl
    omega)
   rw[List.length_erase]at a
   split at a <;> omega
def NV1(B:List (Option Nat))(w:World)(gd g p e h t:Nat)(P:Pl)(c:List Pf)(f:Pf)(d:Ending)(w':World):Prop :=
 ∃ b' m1' m2' b a,PM w' b' gd g m1' m2' p e h t (b++[a]) P/\Turn B (allB b' g m1' m2' p e h t (b++[a])) w w'/\d = .returned (.tuple #[Cc a,.int .i64 0])/\b.length=c.length/\∃ x y,Has w' a 166 (JO f x y)
def JN1(B:List (Option Nat))(w:World)(gd g p e h t:Nat)(P:Pl)(E:Int)(a:Ending)(w':World):Prop :=
 ∃ b' m1' m2' A',PM w' b' gd g m1' m2' p e h t A' P/\Turn B (allB b' g m1' m2' p e h t A') w w'/\a = .returned (.tuple #[.pointer none,.int .i64 E])
def EB1{B:List (Option Nat)}{w w':World}{gd g p e h t:Nat}{P:Pl}{i:Ending}{b:List Pf}{f:Pf}(m:P.ring=b++[f])(n:GetPost B w gd g p e h t P 0 i w'):NV1 B w gd g p e h t P b f i w':=by
 obtain⟨b',o,n2,A',j,q,⟨c,_⟩ |⟨_,k,a,rfl,c⟩⟩:=n
 ·exact absurd rfl c
 ·have d:=j.ring;rw[m]at d
  have l:k.length=b.length:=by have:=d.len;simp at this;omega
  exact⟨b',o,n2,k,a,j,q,c,l,_,_,d.at (A2:=[]) (F2:=[]) l⟩
def get_miss{B:List (Option Nat)}{w w':World}{gd g p e h t:Nat}{P:Pl}{E:Int}{b:Ending}(c:¬ E=0)(d:GetPost B w gd g p e h t P E b w'):JN1 B w gd g p e h t P E b w':=by
 obtain⟨b',f,n2,A',i,j,⟨_,a⟩ |⟨a,_⟩⟩:=d
 ·exact⟨b',f,n2,A',i,j,a⟩
 ·exact absurd a c
def JY1(B:List (Option Nat))(w:World)(gd g p e h t:Nat)(P:Pl)(s:ByteArray)(E:Int)(a:Ending)(w':World):Prop :=
 a = .returned (.tuple #[.string s,.int .i64 E])/\∃ b' m1' m2' A',PM w' b' gd g m1' m2' p e h t A' P/\Turn B (allB b' g m1' m2' p e h t A') w w'
def Pl.text(P:Pl)(x:Int):ByteArray:=if(P.get x).2=0 then(P.get x).1.Pv.s else⟨#[]⟩
def bJ (b:List (Option Nat)) (gd g m1 m2 p e h t:Nat) (A:List Nat) (P:Pl) (x:Int) (J:QJ x) (w:World) (H:PM w b gd g m1 m2 p e h t A P) (ok:P.ok) (C:Fit P.L.D 1) :
 Calls Tryz.prog 70 #[.pointer (some ⟨p,0,none⟩),.int .i64 x] w (JY1 (allB b g m1 m2 p e h t A) w gd g p e h t (P.get x).1 (P.text x) (P.get x).2):=by
 have c:=Ac (iH b gd g m1 m2 p e h t A P x J w H ok C);have i:=Ac (Qb ok (x:=x));have d:Hid (P.text x=if(P.get x).2=0 then(P.get x).1.Pv.s else⟨#[]⟩):=rfl;obtain⟨T,n⟩:∃ T,P.text x=T:=⟨_,rfl⟩;obtain⟨Q,j⟩:∃ Q,(P.get x).1=Q:=⟨_,rfl⟩;obtain⟨E,k⟩:∃ E,(P.get x).2=E:=⟨_,rfl⟩;rw[n,j,k]at d;rw[j,k]at c i;rw[n,j,k];clear H ok C n j k;by_cases l:E=0
 ·subst l;obtain⟨O,f,o,G,K,M⟩:=i rfl
  have q:Hid (T=f.s):=by have:=d.out;rw[AC rfl,(Xq o).1]at this;exact this
  have N:=Ac o;clear d i G K M o;have r:=Ac (c.mono λu w' v=>EB1 N v);clear c;go_enter Tryz.func70,Tryz.ntmps70
  go_wp2_with (go_at_call 97;refine r.mono ?_;rintro u w1 ⟨y,z,n2,R,a,m,B,rfl,F,S,U,I⟩;clear F;have W:w1.cell? ⟨a,1,none⟩=some (.string f.s):=I.cell 1)
  go_ret2;rw[q.out];exact⟨rfl,y,z,n2,_,m,B⟩
 ·have q:Hid (T=⟨#[]⟩):=by have:=d.out;rw [AO l] at this;exact this
  have r:=Ac (c.mono λu w' v=>get_miss l v);clear d i c;go_enter Tryz.func70,Tryz.ntmps70
  go_wp2_with (go_at_call 97;refine r.mono ?_;rintro u w1 ⟨y,z,n2,A1,m,B,rfl⟩)
  go_ret2;rw[q.out];exact⟨rfl,y,z,n2,_,m,B⟩
def put_eq {P:Pl} {x:Int} {s:ByteArray} {a:List Pf} {f:Pf} (h:(P.get x).2=0) (b:(P.get x).1.ring=a++[f]) (c:(f.n:Int)=x) :
 P.put x s=({ (P.get x).1 with ring:=a++[{ f with s:=s,dirty:=true }],turned:=Vq f.n (P.get x).1.turned },0):=by
 unfold Pl.put;rw[AC h,(Xq b).1,(Xq b).2,<- c,IR]
def ZZ (b:List (Option Nat)) (gd g m1 m2 p e h t:Nat) (A:List Nat) (P:Pl) (x:Int) (v:QJ x) (s:ByteArray) (w:World) (H:PM w b gd g m1 m2 p e h t A P) (ok:P.ok) (u:Fit P.L.D 1) :
 Calls Tryz.prog 128 #[.pointer (some ⟨p,0,none⟩),.int .i64 x,.string s] w (W9 (allB b g m1 m2 p e h t A) w gd g p e h t (P.put x s).1 (P.put x s).2):=by
 have i:=Ac (iH b gd g m1 m2 p e h t A P x v w H ok u);have j:=Ac (Yo ok x);by_cases d:(P.get x).2=0
 ·obtain ⟨X,f,m,J,Y,Z⟩:=Qb ok d;have o:=Ac (put_eq (s:=s) d m J);obtain⟨Q,c⟩:∃ Q,(P.get x).1=Q:=⟨_,rfl⟩;rw[c]at m;rw[c,d]at i;rw[c]at o j;have K:=Ac m;have WN:=Ac (KU v.1 v.2);have TL:=Ac (BN (Ux _ _ j.turnd j.turns) (BN j.few (by decide:65536<=100000000)));have z:=Ac (i.mono λB w' C=>EB1 K C);subst J;clear H ok u d m c Y Z i;go_enter Tryz.func128,Tryz.ntmps128
  go_upto_region 6 with(go_at_call 97;refine z.mono ?_;rintro B w1 ⟨F,G,n2,A0,a,k,q,rfl,M,xa,ya,l⟩;have N:=Ac M;have HM:=Ac k;have HT:=Ac q;clear M q;have a1:w1.cell? ⟨a,1,none⟩=some (.string f.s):=l.cell 1;have a3:w1.cell? ⟨a,3,none⟩=some (.bool f.dirty):=l.cell 3;have af:=l.frozen;clear k l)
  obtain⟨O,R⟩:=HM.frame (f':={ f with s:=s }) (A2:=[]) (F2:=[]) K N 1 (.string s) rfl (λx y=>rfl);obtain⟨S,T⟩:=O.frame (f':={ f with s:=s,dirty:=true }) (A2:=[]) (F1:=X) (F2:=[]) rfl N 3 (.bool true) rfl (λx y=>rfl);have I:=Ac S;have T2:=Ac ((HT.trans R).trans T);clear O R S T a1 a3 af;generalize (w1.setCell ⟨a,1,none⟩ (.string s)).setCell ⟨a,3,none⟩ (.bool true)=W at *;have y6:W.cell? ⟨p,6,none⟩=some (.map (some t)):=I.has.cell 6;have MT:=Ac I.turned
  go_wp2_with (at_mapUpdate;refine BJ0 _ rfl _ _ _ 104 3 rfl PU t _ _ rfl MT TL (f.n:Int) rfl WN _ 1 rfl [] (DJ1 1 (by omega)) ?_;intro w3 U V)
  go_ret;obtain⟨s3,t3⟩:=I.tell (n:=f.n) U V;rw[o.out];exact⟨rfl,F,G,n2,_,s3,T2.trans t3⟩
 ·have o:Hid (P.put x s=P.get x):=AO d;rw[o.out];obtain⟨Q,c⟩:∃ Q,(P.get x).1=Q:=⟨_,rfl⟩;obtain⟨E,r⟩:∃ E,(P.get x).2=E:=⟨_,rfl⟩;rw[c,r]at i;rw[c,r];rw[r]at d;have z:=Ac (i.mono λB w' C=>get_miss d C);clear H ok u c r i;go_enter Tryz.func128,Tryz.ntmps128
  go_wp2_with (go_at_call 97;refine z.mono ?_;rintro B w1 ⟨F,G,n2,A1,k,q,rfl⟩)
  go_ret;exact⟨rfl,F,G,n2,_,k,q⟩
def AQ1 (b:List (Option Nat)) (gd g m1 m2 p e h t:Nat) (A:List Nat) (P:Pl) (x:Int) (l:QJ x) (s:ByteArray) (w:World) (H:PM w b gd g m1 m2 p e h t A P) (ok:P.ok) (d:Fit P.L.D 1) :
 Calls Tryz.prog 72 #[.pointer (some ⟨p,0,none⟩),.int .i64 x,.string s] w (W9 (allB b g m1 m2 p e h t A) w gd g p e h t (P.write x s).1 (P.write x s).2):=by
 have PT:=Ac (ZZ b gd g m1 m2 p e h t A P x l s w H ok d);have i:=Ac H;by_cases a:x=0
 ·have c:Hid (P.write x s=(P,1)):=AC (.inl a);rw[c.out];subst a;clear H ok d;go_enter Tryz.func72,Tryz.ntmps72
  go_wp2_with fail
  go_ret;exact⟨rfl,b,m1,m2,A,i,Turn.refl _ _⟩
 ·have r:(x == 0)=false:=FK.2 a;by_cases f:s.size=1024
  ·have c:Hid (P.write x s=P.put x s):=AO (λh=>h.elim a λm=>m f);rw[c.out];obtain⟨Q,j⟩:∃ Q,P.put x s=Q:=⟨_,rfl⟩;rw[j]at PT ⊢
   have z:(s.size:Int)=1024:=by omega
   clear H ok d a j f;go_enter Tryz.func72,Tryz.ntmps72
   go_wp2_with (go_at_call 128;refine PT.mono ?_;rintro u w1 ⟨rfl,n,o,n2,A1,k,q⟩)
   go_ret;exact⟨rfl,n,o,n2,A1,k,q⟩
  ·have c:Hid (P.write x s=(P,1)):=AC (.inr f);rw[c.out]
   have z:((s.size:Int) == 1024)=false:=by rw[FK];omega
   have v:((s.size:Int) != 1024)=true:=by rw[OE];omega
   clear H ok d a f;go_enter Tryz.func72,Tryz.ntmps72
   go_wp2_with fail
   go_ret;exact⟨rfl,b,m1,m2,A,i,Turn.refl _ _⟩
end Go.Proofs.YtjihboddejaelaaGreat
