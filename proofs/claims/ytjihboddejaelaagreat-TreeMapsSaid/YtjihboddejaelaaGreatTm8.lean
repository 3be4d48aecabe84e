/-
  Commit of package wal.
-/
import Derived.Test.YtjihboddejaelaaGreatTm1
import Derived.Test.YtjihboddejaelaaGreatTm7
import Derived.Test.YtjihboddejaelaaGreatTm5
set_option linter.unusedVariables false
set_option linter.unusedSimpArgs false
set_option linter.defProp false
set_option maxRecDepth 100000
set_option maxHeartbeats 100000000
namespace Go.Proofs.YtjihboddejaelaaGreat
open Go.RowKit Go.BigFrame Go.Maps
def SB0 (b:List (Option Nat)) (gd g m1 m2:Nat) (R:Rw) (n:Int) (t:ByteArray) (d f i:Nat) (w:World) (h:LR w b gd g m1 m2 R) (j:Has w d 97 #[.pointer (some ⟨g,0,none⟩)]) (k:Has w f 3 #[.int .i64 n]) (l:Has w i 9 #[.string t]) (a:Fit R.D 1) (p:R.nf<=100000) :
 Calls Tryz.prog 117 #[.pointer (some ⟨d,0,none⟩),.pointer (some ⟨f,0,none⟩),.pointer (some ⟨i,0,none⟩)] w (Ei w b gd g m1 m2 (R.app n t) (R.L6 n t)):=by
 have m:=Ac (yY b gd g m1 m2 R n t w h a p);obtain⟨E,o⟩:∃ x,R.L6 n t=x:=⟨_,rfl⟩;rw[o]at m ⊢;have r:=j.cell 0;have s:=k.cell 0;have u:=l.cell 0;clear o h j k l a;go_enter Tryz.func117,Tryz.ntmps117
 go_wp2_with (go_at_call 98;(with_reducible refine m.out.mono ?_);rintro e v ⟨rfl,c⟩;have q:=Ac c;clear c)
 go_ret;exact⟨rfl,q⟩
def SE0 (b:List (Option Nat)) (gd g m1 m2:Nat) (R:Rw) (p:Nat) (i j:Nat) (w:World) (h:LR w b gd g m1 m2 R) (k:Has w i 97 #[.pointer (some ⟨g,0,none⟩)]) (d:Has w j 3 #[.int .i64 p]) (c:Fit R.D 2) (o:R.slot<2) (n:R.number<4) (q:R.nf<=4611686018427387904) (r:p<=4611686018427387904) :
 Calls Tryz.prog 120 #[.pointer (some ⟨i,0,none⟩),.pointer (some ⟨j,0,none⟩)] w (Ei w b gd g m1 m2 (R.tell R.nf p) (R.Eb R.nf p)):=by
 have a:=(AU w.heap.size w).drew;have l:=Ac (rM b gd g m1 m2 R R.nf p w.drew (h.below a) c o n q r);obtain⟨E,m⟩:∃ x,R.Eb R.nf p=x:=⟨_,rfl⟩;rw[m]at l ⊢;have z:=k.cell 0;have A:=d.cell 0;have B:w.cell? ⟨g,1,none⟩=some (.int .i64 R.nf):=h.has.cell 1;have C:=h.has.lt;have s:=Ac (Turn.below (b++lb g m1 m2) a);clear m h k d c a;go_enter Tryz.func120,Tryz.ntmps120
 go_wp2_with fail
 go_region_with
  (go_at_call 121;(with_reducible refine l.out.mono ?_);rintro e F ⟨rfl,f⟩;have t:=Ac f;clear f)
 all_goals
  go_wp2_with fail
  go_ret;obtain⟨u,v,y⟩:=t;exact⟨rfl,u,v,s.trans y⟩
def qW(R:Rw)(n:Int)(t:ByteArray):(R.app n t).slot=R.slot/\(R.app n t).number=R.number/\(R.app n t).nf<=R.nf+1/\(R.app n t).np=R.np/\(R.app n t).kf=R.kf/\(R.app n t).kp=R.kp:=by
 unfold Rw.app
 split
 ·split
  ·exact⟨rfl,rfl,AY _,rfl,rfl,rfl⟩
  ·exact⟨rfl,rfl,EZ _,rfl,rfl,rfl⟩
 ·exact⟨rfl,rfl,EZ _,rfl,rfl,rfl⟩
def OF1{R:Rw}{k:Nat}(h:Fit R.D (k+1))(n:Int)(t:ByteArray):Fit (R.app n t).D k:=by
 unfold Rw.app
 split
 ·split
  ·exact h.write _ _ _
  ·exact h.write _ _ _
 ·exact h.less (by omega)
def NY0(cs:Array Value)(u:World):(callFunc 117 cs).run Tryz.prog u = .ok (.enter 117 cs) u:=by kernel_rfl
def NC0(cs:Array Value)(u:World):(callFunc 118 cs).run Tryz.prog u = .ok (.enter 118 cs) u:=by kernel_rfl
def NA0(cs:Array Value)(u:World):(callFunc 120 cs).run Tryz.prog u = .ok (.enter 120 cs) u:=by kernel_rfl
def aI(N:Nat):List (FuncId×Array Value):=[(117,#[.pointer (some ⟨N,0,none⟩),.pointer (some ⟨N+1,0,none⟩),.pointer (some ⟨N+1+1,0,none⟩)]),(118,#[.pointer (some ⟨N,0,none⟩)]),(120,#[.pointer (some ⟨N,0,none⟩),.pointer (some ⟨N+1+1+1,0,none⟩)])]
def Og(a N g:Nat)(n:Int)(t:ByteArray)(p:Nat):List (Nat×TypeId×Array Value) :=
 [(a,50,((aI N).map (λx=>Value.func (.func x.1) #[] x.2)).toArray),(N,97,#[.pointer (some ⟨g,0,none⟩)]),(N+1,3,#[.int .i64 n]),(N+1+1,9,#[.string t]),(N+1+1+1,3,#[.int .i64 p])]
structure bH (u:World) (N g:Nat) (n:Int) (t:ByteArray) (p:Nat):Prop where
 l:Has u N 97 #[.pointer (some ⟨g,0,none⟩)]
 n:Has u (N+1) 3 #[.int .i64 n]
 t:Has u (N+1+1) 9 #[.string t]
 p:Has u (N+1+1+1) 3 #[.int .i64 p]
def Sv{u:World}{a N g:Nat}{n:Int}{t:ByteArray}{p:Nat}(h:ML u (Og a N g n t p)):bH u N g n t p :=
 ⟨h (N,_,_) (by simp[Og]),h (N+1,_,_) (by simp[Og]),h (N+1+1,_,_) (by simp[Og]),h (N+1+1+1,_,_) (by simp[Og])⟩
def ID0 (b:List (Option Nat)) (gd g m1 m2:Nat) (R:Rw) (n:Int) (t:ByteArray) (p f:Nat) (w wc:World) (h:LR w b gd g m1 m2 R) (r:Fit R.D 4) (A:R.slot<2) (v:R.number<4) (y:R.nf<=100000) (o:p<=4611686018427387904)
 (s:Below w.heap.size w wc) (z:Has wc f 50 ((aI w.heap.size).map (λx=>Value.func (.func x.1) #[] x.2)).toArray) (j:bH wc w.heap.size g n t p) (H:w.heap.size<=f) :
 Calls Tryz.prog 116 #[.slice (some ⟨f,0,none⟩) 3 3] wc λe w'=>e = .returned (.int .i64 (upTo (Dh R n t p) 3).2)/\Held w b gd g m1 m2 (Og f w.heap.size g n t p) (Js R n t p (upTo (Dh R n t p) 3).1) w':=by
 refine jW (aI w.heap.size) f 3 w b gd g m1 m2 _ (Js R n t p) (Dh R n t p) 50 wc rfl (by omega) (by simp[Og]) ⟨b,h.below s, ?_, ?_,Turn.below _ s⟩ ?_ ?_
 ·intro x c;simp only[Og,BI,PY,OC]at c
  rcases c with rfl | rfl | rfl | rfl | rfl
  ·exact z
  ·exact j.l
  ·exact j.n
  ·exact j.t
  ·exact j.p
 ·intro x c B;have C:=h.lt B;simp only[Og,BI,PY,OC]at c
  rcases c with rfl | rfl | rfl | rfl | rfl <;> simp only at C <;> omega
 ·intro i k cs a u;have E:i<3:=(C9.1 a).1
  obtain rfl | rfl | rfl:i=0\/i=1\/i=2:=by omega
  ·cases a;exact NY0 _ _
  ·cases a;exact NC0 _ _
  ·cases a;exact NA0 _ _
 ·intro i k cs a u q m c I J;have E:i<3:=(C9.1 a).1;have d:=Sv c;obtain⟨F,G,K,_⟩:=qW R n t;have f1:Fit (R.app n t).D 3:=OF1 r n t;have f2:Fit ((R.app n t).D.sync 1) 2:=f1.sync _
  obtain rfl | rfl | rfl:i=0\/i=1\/i=2:=by omega
  ·cases a
   exact SB0 q gd g m1 m2 R n t _ _ _ u m d.l d.n d.t (r.less (by omega)) y
  ·cases a
   exact(TI0 q gd g m1 m2 (R.app n t) _ u m d.l (f1.less (by omega))).mono λe w' o=>Ei.V9 (R:=R.app n t) m o
  ·cases a
   exact SE0 q gd g m1 m2 { R.app n t with D:=(R.app n t).D.sync 1 } p _ _ u m d.l d.p f2 (F ▸ A) (G ▸ v) (show(R.app n t).nf<=_ by omega) o
section
variable {w0 w w':World} {b c:List (Option Nat)} {gd g m1 m2 m n:Nat} {R:Rw} {f:Int->Nat}
def LR.GN1 (h:LR w b gd g m1 m2 R) (t:Turn c (b++lb g m1 m2) w0 w) (u:MP w m n f) (i:some m∉b++lb g m1 m2) (o:w0.heap.size<=m) (p:Nat) :
 LR (((w.setCell ⟨g,4,none⟩ (.int .i64 n)).setCell ⟨g,5,none⟩ (.int .i64 p)).setCell ⟨g,6,none⟩ (.map (some m))) b gd g m1 m { R with kf:=n,kp:=p,f2:=f } /\
 Turn c (b++lb g m1 m) w0 (((w.setCell ⟨g,4,none⟩ (.int .i64 n)).setCell ⟨g,5,none⟩ (.int .i64 p)).setCell ⟨g,6,none⟩ (.map (some m))):=by
 have e:Turn [some g] [some g] w (((w.setCell ⟨g,4,none⟩ (.int .i64 n)).setCell ⟨g,5,none⟩ (.int .i64 p)).setCell ⟨g,6,none⟩ (.map (some m))):=((Turn.cell g 4 _ w).trans (Turn.cell g 5 _ _)).trans (Turn.cell g 6 _ _);have j:some g∈b++lb g m1 m2:=BC _ (Ht.2 (.inl rfl))
 have q:m≠g:=by rintro rfl;exact i j
 have r:m1≠m:=by rintro rfl;exact i (BC _ (Ht.2 (.inr (.inl rfl))))
 have s:some m∉b:=λa=>i (BL _ a);refine⟨⟨h.disk.turn e λk d a=>?_,((h.has.set 4 _).set 5 _).set 6 _,h.map1.turn e λl=>h.ne1 (by simpa using l:m1=g).symm,u.turn e λl=>q (by simpa using l),r,λk d a=>?_⟩, ?_⟩
 ·have:k=g:=by simpa using d
  subst this;exact h.off.1 a
 ·rcases Ht.1 a with rfl | rfl | rfl
  ·exact h.off.1 d
  ·exact h.off.2.1 d
  ·exact s d
 ·refine t.trans' e (λk d=>?_) (λk d=>?_)
  ·have:k=g:=by simpa using d
   subst this;exact j
  ·rcases BO.1 d with a | a
   ·exact .inl (BL _ a)
   ·rcases Ht.1 a with rfl | rfl | rfl
    ·exact .inl j
    ·exact .inl (BC _ (Ht.2 (.inr (.inl rfl))))
    ·exact .inr o
end
def ZM0(R:Rw)(n:Int)(t:ByteArray)(p k:Nat):(Js R n t p k).nf<=R.nf+1:=by
 obtain⟨_,_,a,_⟩:=qW R n t;unfold Js
 split
 ·exact EZ _
 ·exact a
 ·exact a
 ·rw[(jI _ _ _).1];exact a
def UO(w:World)(g:Nat)(n:Int)(t:ByteArray)(p:Nat):World:=(((w.alloc (.cells #[.pointer (some ⟨g,0,none⟩)] 97)).alloc (.cells #[.int .i64 n] 3)).alloc (.cells #[.string t] 9)).alloc (.cells #[.int .i64 p] 3)
def VA0(w:World)(g:Nat)(n:Int)(t:ByteArray)(p:Nat):bH (UO w g n t p) w.heap.size g n t p/\Below w.heap.size w (UO w g n t p)/\(UO w g n t p).heap.size=w.heap.size+4:=by
 have d:=Has.new w 97 #[.pointer (some ⟨g,0,none⟩)];have a:=Has.new (w.alloc (.cells #[.pointer (some ⟨g,0,none⟩)] 97)) 3 #[.int .i64 n];have b:=Has.new ((w.alloc (.cells #[.pointer (some ⟨g,0,none⟩)] 97)).alloc (.cells #[.int .i64 n] 3)) 9 #[.string t];have c:=Has.new (((w.alloc (.cells #[.pointer (some ⟨g,0,none⟩)] 97)).alloc (.cells #[.int .i64 n] 3)).alloc (.cells #[.string t] 9)) 3 #[.int .i64 p];rw[ED]at a;rw[ED,ED]at b;rw[ED,ED,ED]at c;exact⟨⟨((d.alloc _).alloc _).alloc _,(a.alloc _).alloc _,b.alloc _,c⟩,((((AU _ _).alloc (AY _) _).alloc (by simp) _).alloc (by simp;omega) _).alloc (by simp;omega) _,by simp[UO]⟩
def YJ0 (b:List (Option Nat)) (gd g m1 m2:Nat) (R:Rw) (n:Int) (t:ByteArray) (p:Int) (w:World) (h:LR w b gd g m1 m2 R) (F:Fit R.D 4) (J:R.slot<2) (G:R.number<4) (s:R.nf<=100000) :
 Calls Tryz.prog 40 #[.pointer (some ⟨g,0,none⟩),.int .i64 n,.string t,.int .i64 p] w (XJ w b gd g m1 m2 (R.Bi n t p) (.int .i64 (R.Ez n t p))):=by
 by_cases c:1<=p/\p<=65536
 ·obtain ⟨q,rfl⟩:∃ q:Nat,p=q:=⟨p.toNat,(OU (by omega)).symm⟩
  have k:=Ac (show R.Bi n t q=if(upTo (Dh R n t q) 3).2=0 then{ Js R n t q (upTo (Dh R n t q) 3).1 with np:=q,kf:=(Js R n t q (upTo (Dh R n t q) 3).1).nf,kp:=q,f2:=(Js R n t q (upTo (Dh R n t q) 3).1).f1 }else Js R n t q (upTo (Dh R n t q) 3).1 from AC c);have y:R.Ez n t q=(upTo (Dh R n t q) 3).2:=AC c;rw[y];have o:=Ac (VA0 w g n t q)
  have P:decide ((q:Int)<1)=false:=by simp;omega
  have d2:decide ((65536:Int)<(q:Int))=false:=by simp;omega
  have K:=Ac (λ(W:World) (L:Below w.heap.size w W) (a:bH W w.heap.size g n t q)=>ID0 b gd g m1 m2 R n t q W.heap.size w (W.alloc (.cells ((aI w.heap.size).map (λx=>Value.func (.func x.1) #[] x.2)).toArray 50)) h F J G s (by omega) (L.alloc L.size _) (Has.new _ _ _) ⟨a.l.alloc _,a.n.alloc _,a.t.alloc _,a.p.alloc _⟩ L.size);obtain⟨E,d⟩:∃ E,(upTo (Dh R n t q) 3).2=E:=⟨_,rfl⟩;have Q:=ZM0 R n t q (upTo (Dh R n t q) 3).1;obtain⟨C,H⟩:∃ C,Js R n t q (upTo (Dh R n t q) 3).1=C:=⟨_,rfl⟩;rw[H]at Q;rw[d,H]at K k;rw[d];have M:=Ac h;have HQ:=Ac c;have aa:=Ac (show C.nf<=1000000 by omega);clear d Q H h F c y s;go_enter Tryz.func40,Tryz.ntmps40
  go_upto_region 1 with fail
  rw[show(((w.alloc (.cells #[.pointer (some ⟨g,0,none⟩)] 97)).alloc (.cells #[.int .i64 n] 3)).alloc (.cells #[.string t] 9)).alloc (.cells #[.int .i64 q] 3)=UO w g n t q from rfl];generalize UO w g n t q=W at *;obtain⟨a,I,O⟩:=o.out;have ac:=Ac a;have ad:=Ac I;have ae:=Ac O;have x0:=a.l.cell 0;have x3:=a.p.cell 0;have S:=Ac (K W I a);clear a I O o K;have CP:=Ac (λw1 (z:MP w1 m1 C.nf C.f1)=>Ug m1 C.nf q C.nf C.f1 w1 aa z)
  go_wp2_with ((go_at_call 116;refine S.mono ?_);rintro e w2 ⟨rfl,hH⟩;obtain⟨A,f,B,T,U⟩:=hH;have u:=Ac f;have HX:=Ac (Sv B);have X:=Ac U;have ab:=Ac (T (w.heap.size,97,#[.pointer (some ⟨g,0,none⟩)]) (by simp[Og]));have Y:=(Sv B).l.cell 0;have y3:=(Sv B).p.cell 0;obtain⟨Z,z2,z3⟩:=f.now;obtain⟨z4,z5,z6⟩:=f.old;have zf:=f.has.frozen;have gz:=f.has.lt;clear f B T U)
  ·have v:E=0:=by rename_i d;simpa using d
   have R1:=Ac (k.trans (AC v));have HS:=Ac (u.set 2 (.int .i64 q) { C with np:=q } rfl rfl u.map1 u.map2);have HY:=Ac (HX.l.far (p:=⟨g,2,none⟩) (λe=>ab (by rw[e];exact BC _ (Ht.2 (.inl rfl)))) (.int .i64 q));clear Y y3 Z z2 z3 z4 z5 z6 zf gz x0 x3 S;generalize w2.setCell ⟨g,2,none⟩ (.int .i64 q)=V at *;have Y:=HY.cell 0;have r:=Ac HS.1;obtain⟨Z,z2,z3⟩:=r.now;obtain⟨z4,z5,z6⟩:=r.old;have zf:=r.has.frozen;have gz:=r.has.lt;have i:=Ac (r.below (AU _ _).drew);have YD:=Ac (HY.Ai (AU _ _).drew)
   go_region_with ((go_at_call 115;refine(CP _ i.map1).mono ?_);rintro e w3 ⟨m,rfl,hm,N,j⟩;have HM:=Ac hm;have HW:=Ac N;have o:=Ac j;have c1:=(i.below j).old;have y1:=(i.below j).has.lt;have yf:=(i.below j).has.frozen;have yl:=(YD.Ai j).cell 0;clear hm N j;obtain⟨c1,c2,c3⟩:=c1)
   all_goals
    go_wp2_with fail
    go_ret;have H3:=i.below o;have hv:Turn (A++lb g m1 m2) (A++lb g m1 m2) V V.drew:=Turn.below _ (AU _ _).drew;obtain⟨h4,t4⟩:=H3.GN1 (hv.trans (Turn.below _ o)) HM (λh3=>by have:=i.lt h3;have:=HW.out;omega) HW q;rw[v,R1.out];exact⟨rfl,A,m1,m,h4,(X.trans HS.2).trans t4⟩
  ·have v:E≠0:=by rename_i d;simpa using d
   go_ret;rw[k.out,AO v];exact⟨rfl,A,m1,m2,u,X⟩
 ·have k:R.Bi n t p=R:=AO c;have y:R.Ez n t p=1:=AO c;rw[k,y];have M:=Ac h;clear h F;by_cases z:1<=p
  ·have P:decide (p<1)=false:=by simp;omega
   have d2:decide ((65536:Int)<p)=true:=by simp;omega
   clear c z J G s;go_enter Tryz.func40,Tryz.ntmps40
   go_wp2_with fail
   go_ret
   refine⟨rfl,b,m1,m2,M.below ?_,Turn.below _ ?_⟩ <;> exact((((AU _ _).alloc (AY _) _).alloc (by simp) _).alloc (by simp;omega) _).alloc (by simp;omega) _
  ·have P:decide (p<1)=true:=by simp;omega
   clear c z J G s;go_enter Tryz.func40,Tryz.ntmps40
   go_wp2_with fail
   go_ret
   refine⟨rfl,b,m1,m2,M.below ?_,Turn.below _ ?_⟩ <;> exact((((AU _ _).alloc (AY _) _).alloc (by simp) _).alloc (by simp;omega) _).alloc (by simp;omega) _
def GV0 (b:List (Option Nat)) (gd g m1 m2:Nat) (R:Rw) (i:Nat) (w:World) (h:LR w b gd g m1 m2 R) (j:Has w i 97 #[.pointer (some ⟨g,0,none⟩)]) (a:Fit R.D 1) (m:R.np<=4294967296) :
 Calls Tryz.prog 174 #[.pointer (some ⟨i,0,none⟩)] w (Tu w b gd (R.D.Fp 0 (R.np*1024:Nat)) (.int .i64 (R.D.IM 0 (R.np*1024:Nat)))):=by
 have c:=(AU w.heap.size w).drew;have d:=Ac (oZ gd R.D b 0 (R.np*1024:Nat) w.drew (h.disk.below c) a.ok (by have:=a.count;omega) (by have:=a.waits;omega));obtain⟨E,k⟩:∃ x,R.D.IM 0 (R.np*1024:Nat)=x:=⟨_,rfl⟩;obtain⟨s,l⟩:∃ x,R.D.Fp 0 (R.np*1024:Nat)=x:=⟨_,rfl⟩;rw[k,l]at d ⊢;rw[show((R.np*1024:Nat):Int)=IntKind.i64.wrap ((R.np:Int)*1024)from(nP _ _).trans (JL _ (by omega)).symm]at d;have t:=j.cell 0;have u:=h.cell0;have v:w.cell? ⟨g,2,none⟩=some (.int .i64 R.np):=h.has.cell 2;have y:=h.has.lt;have n:=Ac (Turn.below b c);clear k l h j a m c;go_enter Tryz.func174,Tryz.ntmps174
 go_wp2_with fail
 go_region_with
  (go_at_call 175;(with_reducible refine d.out.mono ?_);rintro e z ⟨rfl,f⟩;have o:=Ac f;clear f)
 all_goals
  go_wp2_with fail
  go_ret;obtain⟨p,q,r⟩:=o;exact⟨rfl,p,q,n.trans r⟩
def FI0 (b:List (Option Nat)) (gd g m1 m2:Nat) (R:Rw) (i:Nat) (w:World) (h:LR w b gd g m1 m2 R) (j:Has w i 97 #[.pointer (some ⟨g,0,none⟩)]) (d:Fit R.D 2) (m:R.slot<2) (l:R.number<4) (n:R.np<=4611686018427387904) :
 Calls Tryz.prog 177 #[.pointer (some ⟨i,0,none⟩)] w (Ei w b gd g m1 m2 (R.tell 0 R.np) (R.Eb 0 R.np)):=by
 have a:=(AU w.heap.size w).drew;have c:=Ac (rM b gd g m1 m2 R 0 R.np w.drew (h.below a) d m l (by omega) n);rw[show((0:Nat):Int)=0 from rfl]at c;obtain⟨E,k⟩:∃ x,R.Eb 0 R.np=x:=⟨_,rfl⟩;rw[k]at c ⊢;have t:=j.cell 0;have u:w.cell? ⟨g,2,none⟩=some (.int .i64 R.np):=h.has.cell 2;have v:=h.has.lt;have o:=Ac (Turn.below (b++lb g m1 m2) a);clear k h j d a;go_enter Tryz.func177,Tryz.ntmps177
 go_wp2_with fail
 go_region_with
  (go_at_call 121;(with_reducible refine c.out.mono ?_);rintro e y ⟨rfl,f⟩;have p:=Ac f;clear f)
 all_goals
  go_wp2_with fail
  go_ret;obtain⟨q,r,s⟩:=p;exact⟨rfl,q,r,o.trans s⟩
def CU0(cs:Array Value)(u:World):(callFunc 174 cs).run Tryz.prog u = .ok (.enter 174 cs) u:=by kernel_rfl
def CB0(cs:Array Value)(u:World):(callFunc 176 cs).run Tryz.prog u = .ok (.enter 176 cs) u:=by kernel_rfl
def CX0(cs:Array Value)(u:World):(callFunc 177 cs).run Tryz.prog u = .ok (.enter 177 cs) u:=by kernel_rfl
def ZO(N:Nat):List (FuncId×Array Value):=[(174,#[.pointer (some ⟨N,0,none⟩)]),(176,#[.pointer (some ⟨N,0,none⟩)]),(177,#[.pointer (some ⟨N,0,none⟩)])]
def Wl(a N g:Nat):List (Nat×TypeId×Array Value) :=
 [(a,50,((ZO N).map (λx=>Value.func (.func x.1) #[] x.2)).toArray),(N,97,#[.pointer (some ⟨g,0,none⟩)])]
def Jv{u:World}{a N g:Nat}(h:ML u (Wl a N g)):Has u N 97 #[.pointer (some ⟨g,0,none⟩)]:=h (N,_,_) (by simp[Wl])
def JW0 (b j:List (Option Nat)) (gd g m1 m2 N:Nat) (R:Rw) (w0 w:World) (h:LR w b gd g m1 m2 R) (n:Fit R.D 4) (r:R.slot<2) (q:R.number<4) (d:R.np<=4294967296)
 (s:Has w N 97 #[.pointer (some ⟨g,0,none⟩)]) (t:some N∉b++lb g m1 m2) (v:Turn (j++lb g m1 m2) (b++lb g m1 m2) w0 w) :
 Calls Tryz.prog 116 #[.slice (some ⟨w.heap.size,0,none⟩) 3 3] (w.alloc (.cells ((ZO N).map (λx=>Value.func (.func x.1) #[] x.2)).toArray 50)) λe w'=>e = .returned (.int .i64 (upTo (Et R R.np) 3).2)/\Held w0 j gd g m1 m2 (Wl w.heap.size N g) (Vm R R.np (upTo (Et R R.np) 3).1) w':=by
 have o:=(AU w.heap.size w).alloc (AY _) (.cells ((ZO N).map (λx=>Value.func (.func x.1) #[] x.2)).toArray 50);refine jW (ZO N) w.heap.size 3 w0 j gd g m1 m2 _ (Vm R R.np) (Et R R.np) 50 _ rfl (by omega) (by simp[Wl]) ⟨b,h.below o, ?_, ?_,v.trans (Turn.below _ o)⟩ ?_ ?_
 ·intro x c;simp only[Wl,BI,PY,OC]at c
  rcases c with rfl | rfl
  ·exact Has.new _ _ _
  ·exact s.alloc _
 ·intro x c p;have y:=h.lt p;simp only[Wl,BI,PY,OC]at c
  rcases c with rfl | rfl
  ·simp only at y;omega
  ·exact t p
 ·intro i k cs a u;have z:i<3:=(C9.1 a).1
  obtain rfl | rfl | rfl:i=0\/i=1\/i=2:=by omega
  ·cases a;exact CU0 _ _
  ·cases a;exact CB0 _ _
  ·cases a;exact CX0 _ _
 ·intro i k cs a u l f c A B;have z:i<3:=(C9.1 a).1;have m:=Jv c;have f1:Fit (R.D.Fp 0 (R.np*1024:Nat)) 3:=n.cut _ _;have f2:Fit ((R.D.Fp 0 (R.np*1024:Nat)).sync 0) 2:=f1.sync _
  obtain rfl | rfl | rfl:i=0\/i=1\/i=2:=by omega
  ·cases a
   exact(GV0 l gd g m1 m2 R _ u f m (n.less (by omega)) d).mono λe w' d=>Ei.V9 (R:=R) f d
  ·cases a
   exact(IL0 l gd g m1 m2 _ _ u f m (f1.less (by omega))).mono λe w' d=>Ei.V9 (R:={ R with D:=R.D.Fp 0 (R.np*1024:Nat) }) f d
  ·cases a
   exact FI0 l gd g m1 m2 { R with D:=(R.D.Fp 0 (R.np*1024:Nat)).sync 0 } _ u f m f2 r q (show R.np<=_ by omega)
def yQ{D:Dk}(b:D.ok){f a n:Int}(c:0<=f/\f<2):(D.Fa f a n).size<=67108864:=by
 unfold Dk.Fa
 split
 ·rw [Df,CU,DJ];have:=b.seen f.toNat;omega
 ·exact BR _
def PO0{R:Rw}(a:R.D.ok)(n:Int):(R.Fa n).size<=67108864:=by
 unfold Rw.Fa
 split
 ·split
  ·exact yQ a (by omega)
  ·split
   ·exact BR _
   ·split
    ·exact BR _
    ·exact yQ a (by omega)
 ·exact BR _
def KP1{M:Rw}{m:Nat}(h:Fit M.D (70000-min m 65537)):Fit (M.Vg m).D (70000-min (m+1) 65537):=by
 unfold Rw.Vg
 split
 ·exact h.less (by omega)
 ·split
  ·exact h.less (by omega)
  ·by_cases c:m<65537
   ·have a:Fit M.D ((70000-min (m+1) 65537)+1):=h.less (by omega);exact a.write _ _ _
   ·show Fit (M.D.write 0 (m*1024:Nat) (M.Fa m)) _
    have b:¬ Jr 0 (m*1024:Nat) (M.Fa m).size:=by unfold Jr;omega
    unfold Dk.write;rw[AO b];exact h.less (by omega)
end Go.Proofs.YtjihboddejaelaaGreat
