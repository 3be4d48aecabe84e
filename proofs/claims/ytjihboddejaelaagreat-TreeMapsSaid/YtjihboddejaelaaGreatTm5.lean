/-
  Append of package wal.
-/
import Derived.Test.YtjihboddejaelaaGreatTm1
import Derived.Test.YtjihboddejaelaaGreatTm4
set_option linter.unusedVariables false
set_option linter.unusedSimpArgs false
set_option linter.defProp false
set_option maxRecDepth 100000
set_option maxHeartbeats 100000000
namespace Go.Proofs.YtjihboddejaelaaGreat
open Go.RowKit Go.BigFrame Go.Maps
def Rw.at_(R:Rw):Nat:=64+1028*R.nf
def JY(n:Int)(t:ByteArray):ByteArray:=bsOf (Fr.bytes ⟨n.toNat,t⟩)
def Tt(n:Int)(t:ByteArray):Prop:=0<=n/\n<=2147483647/\t.size=1024
instance (n:Int) (t:ByteArray):Decidable (Tt n t):=by unfold Tt;infer_instance
def Rw.app(R:Rw)(n:Int)(t:ByteArray):Rw :=
 if Tt n t/\R.at_+1028<=67108864 then
  if R.D.Ji 1 R.at_ (JY n t)=0 then{ R with D:=R.D.write 1 R.at_ (JY n t),nf:=R.nf+1,f1:=λy=>if y=n then R.nf+1 else R.f1 y }
  else{ R with D:=R.D.write 1 R.at_ (JY n t) }
 else R
def Rw.L6(R:Rw)(n:Int)(t:ByteArray):Int:=if Tt n t then(if R.at_+1028<=67108864 then R.D.Ji 1 R.at_ (JY n t)else 8)else 1
def MP.mono{w:World}{b n m:Nat}{f:Int->Nat}(h:MP w b n f)(a:n<=m):MP w b m f:=by
 obtain⟨D,c,d⟩:=h;exact⟨D,c.mono a,d⟩
def LR.QA1 {w w':World} {b:List (Option Nat)} {gd g m1 m2:Nat} {R:Rw} (h:LR w b gd g m1 m2 R) (f:w.grownBy w' (some m1)) (R':Rw) (i:WG gd m1 m2 R=WG gd m1 m2 R') (j:R'.D=R.D) (l:MP w' m1 R'.nf R'.f1) (c:MP w m2 R'.kf R'.f2) :
 LR w' b gd g m1 m2 R'/\Turn (b++lb g m1 m2) (b++lb g m1 m2) w w':=by
 have d:=Turn.grown f;refine⟨⟨j ▸ h.disk.turn d λk a c=>?_,i ▸ h.has.grown f (λe=>h.ne1 (CV e)),l,c.turn d λm=>?_,h.ne,h.apart⟩,d.wide (λk a=>?_) (λk a=>.inr a)⟩
 ·have:k=m1:=by simpa using a
  subst this;exact h.off.2.1 c
 ·exact h.ne (by simpa using m:m2=m1).symm
 ·have:k=m1:=by simpa using a
  exact BC _ (Ht.2 (.inr (.inl this)))
def Ei.refl{u:World}{b:List (Option Nat)}{gd g m1 m2:Nat}{R:Rw}{E:Int}(h:LR u b gd g m1 m2 R):Ei u b gd g m1 m2 R E (.returned (.int .i64 E)) u:=⟨rfl,b,h,Turn.refl _ _⟩
def yY (b:List (Option Nat)) (gd g m1 m2:Nat) (R:Rw) (n:Int) (t:ByteArray) (w:World) (h:LR w b gd g m1 m2 R) (K:Fit R.D 1) (ae:R.nf<=100000) :
 Calls Tryz.prog 98 #[.pointer (some ⟨g,0,none⟩),.int .i64 n,.string t] w (Ei w b gd g m1 m2 (R.app n t) (R.L6 n t)):=by
 have l:=Ac h;have x0:=h.cell0;have x1:w.cell? ⟨g,1,none⟩=some (.int .i64 R.nf):=h.has.cell 1;have x3:w.cell? ⟨g,3,none⟩=some (.map (some m1)):=h.has.cell 3;have xf:=h.has.frozen;have B:=Ac K;clear h K;by_cases a:Tt n t
 ·by_cases i:R.at_+1028<=67108864
  ·have k:=Ac (show R.app n t=if R.D.Ji 1 R.at_ (JY n t)=0 then { R with D:=R.D.write 1 R.at_ (JY n t),nf:=R.nf+1,f1:=λy=>if y=n then R.nf+1 else R.f1 y } else { R with D:=R.D.write 1 R.at_ (JY n t) } from AC ⟨a,i⟩);have c:=Ac (show R.L6 n t=R.D.Ji 1 R.at_ (JY n t)by unfold Rw.L6;rw[AC a,AC i]);rw[c.out];obtain⟨d,j,m⟩:=a;unfold Rw.at_ at i;have o:=Ac (λV w1 (d:DP w1 V gd R.D)=>Xy gd R.D V 1 R.at_ (JY n t) w1 d B.ok (by have:=B.count;omega) (by have:=B.waits;omega) (by unfold JY;rw[Df,Fr.Hz _ m];omega));have C:=Ac (ZY n.toNat (by omega));have W:=Ac (show JY n t=bsOf (BJ n.toNat 4)++t by unfold JY Fr.bytes;rw[<- Ve,WS])
   rw[W.out]at o k c ⊢;obtain⟨F,v⟩:∃ s,bsOf (BJ n.toNat 4)=s:=⟨_,rfl⟩
   have z1:F.size=4:=by rw[<- v,Df,Bj]
   rw[v]at o C k c ⊢;rw[show((n.toNat:Nat):Int)=n from OU d]at C;obtain⟨E,G⟩:∃ x,R.D.Ji 1 R.at_ (F++t)=x:=⟨_,rfl⟩;obtain⟨D',X⟩:∃ x,R.D.write 1 R.at_ (F++t)=x:=⟨_,rfl⟩;rw[G,X]at o k;rw[G];have H3:=Ac m
   have z3:(t.size:Int)=1024:=by omega
   have H1:=Ac d;have H2:=Ac j;have HR:=Ac i
   have H:decide (n<0)=false:=by simp;omega
   have I:decide ((2147483648:Int)<=n)=false:=by simp;omega
   have Y:decide ((67108864:Int)<64+(R.nf:Int)*1028+1028)=false:=by simp;omega
   clear G X W v c m d j i;go_enter bU,bT
   go_wp2_with fail
   have L:=Ac (l.below (AU _ _).drew);have J:=Ac ((AU w.heap.size w).drew);rw[show((R.at_:Nat):Int)=64+(R.nf:Int)*1028 by unfold Rw.at_;omega]at o
   go_region_with
    (first |(go_at_call 173;(with_reducible refine(C.out _).mono ?_);rintro e w1 ⟨rfl,z⟩;have q:=Ac (L.below z);have M:=Ac (Ap J z J.size);have y1:=q.cell0) |(go_at_call 172;(with_reducible refine(o.out _ _ q.out.disk).mono ?_);rintro e u ⟨rfl,Z,N,O⟩;obtain⟨A,P⟩:=q.PN N O;have f:=Ac A;have Q:=Ac ((Turn.below _ M).trans P);have y0:=A.cell0;clear N O A P z))
   all_goals
    by_cases S:E=0
    ·subst S;have r:=Ac (k.trans (AC rfl));have y1:u.cell? ⟨g,1,none⟩=some (.int .i64 R.nf):=f.has.cell 1;have y3:u.cell? ⟨g,3,none⟩=some (.map (some m1)):=f.has.cell 3;have yf:=f.has.frozen;have yz:=f.has.lt;have p:=Ac (f.set 1 (.int .i64 (R.nf+1:Nat)) { R with D:=D',nf:=R.nf+1 } rfl rfl (f.map1.mono (EZ _)) f.map2);rw[show((R.nf+1:Nat):Int)=(R.nf:Int)+1 from rfl]at p;have ab:=Ac (show MP (u.setCell ⟨g,1,none⟩ (.int .i64 ((R.nf:Int)+1))) m1 R.nf R.f1 from f.map1.block (CX _ _ _ _ f.ne1.symm));clear k x0 x1 x3 xf y0 L J q M
     go_upto_region 10 with fail
     have WN:=Ac (KU (x:=n) (by have:=H1.out;omega) (by have:=H2.out;omega));obtain⟨w3,aa,T,U⟩:=(show MP (u.setCell ⟨g,1,none⟩ (.int .i64 ((R.nf:Int)+1))).drew m1 R.nf R.f1 from ab.block rfl).put (by omega) n (R.nf+1) WN (by omega);rw[show((R.nf+1:Nat):Int)=(R.nf:Int)+1 from rfl]at aa;have ac:=Ac T;have ad:=Ac U;clear T U
     go_region
     all_goals
      go_wp2_with fail
      go_ret;obtain⟨h5,t5⟩:=(p.1.below (AU _ _).drew).QA1 ad (R.app n t) (by rw[r.out];rfl) (by rw[r.out]) (by rw[r.out];exact ac) (by rw[r.out];exact(p.1.below (AU _ _).drew).map2);exact⟨rfl,Z,h5,((Q.trans p.2).trans (Turn.below _ (AU _ _).drew)).trans t5⟩
    ·go_wp2_with fail
     go_ret;rw[k.out,AO S];exact⟨rfl,Z,f,Q⟩
  ·have c:=Ac (show R.app n t=R/\R.L6 n t=8 from ⟨AO (λh=>i h.2),by unfold Rw.L6;rw [AC a,AO i]⟩);rw[c.1,c.2];obtain⟨d,j,m⟩:=a;unfold Rw.at_ at i
   have z3:(t.size:Int)=1024:=by omega
   have H:decide (n<0)=false:=by simp;omega
   have I:decide ((2147483648:Int)<=n)=false:=by simp;omega
   have Y:decide ((67108864:Int)<64+(R.nf:Int)*1028+1028)=true:=by simp;omega
   clear c m d j i;go_enter bU,bT
   go_wp2_with fail
   go_ret;exact Ei.refl l
 ·have c:=Ac (show R.app n t=R/\R.L6 n t=1 from ⟨AO (λh=>a h.1),by unfold Rw.L6;rw [AO a]⟩);rw[c.1,c.2];clear c;unfold Tt at a;by_cases d:0<=n
  ·have H:decide (n<0)=false:=by simp;omega
   by_cases j:n<=2147483647
   ·have I:decide ((2147483648:Int)<=n)=false:=by simp;omega
    have Y:((t.size:Int) != 1024)=true:=by
     rw[OE];intro e;exact a ⟨d,j,by omega⟩
    clear a d j;go_enter bU,bT
    go_wp2_with fail
    go_ret;exact Ei.refl l
   ·have I:decide ((2147483648:Int)<=n)=true:=by simp;omega
    clear a d j;go_enter bU,bT
    go_wp2_with fail
    go_ret;exact Ei.refl l
  ·have H:decide (n<0)=true:=by simp;omega
   clear a d;go_enter bU,bT
   go_wp2_with fail
   go_ret;exact Ei.refl l
end Go.Proofs.YtjihboddejaelaaGreat
namespace Go.Proofs.YtjihboddejaelaaGreat
open Go.RowKit
def Lg.rw(L:Lg):Rw:=⟨L.D,L.fs.length,L.pages,λx=>Aw L.fs x,L.kept,L.pages,λx=>Aw (L.fs.take L.kept) x,L.slot,L.number⟩
def Ua(D:Dk)(f:Nat)(a:f<2)(k:Nat)(b:k<2):(D.sync f).seen k=D.seen k:=by
 unfold Dk.sync;rw[AC (by omega)]
 split
 ·exact D.bC k
 ·exact D.yG f k a b
def Oq{f a n:Nat}:Jr f a n↔f<2/\a+n<=67108864:=by unfold Jr;omega
def Xm(D:Dk)(f a:Nat)(s:ByteArray)(k:Nat):(D.write f a s).seen k=if(f<2/\a+s.size<=67108864)/\¬ D.stops/\f=k then GR (D.seen k) a s.data.toList else D.seen k:=by
 unfold Dk.write;by_cases h:Jr f a s.size
 ·have e:=Oq.1 h;rw[AC h];by_cases c:D.stops
  ·rw [AO (λb=>b.2.1 c)];unfold Dk.change;rw[AC c];exact D.bC k
  ·rw [Dk.Rj _ _ c];simp only[IR];by_cases d:f=k
   ·have b:(f<2/\a+s.size<=67108864)/\¬ D.stops/\f=k:=⟨e,c,d⟩
    rw[AC d,AC b];unfold Ch.done;simp
   ·rw[AO d,AO (λb=>d b.2.2)]
 ·rw[AO h,AO (λb=>h (Oq.2 b.1))]
def pR(D:Dk)(f a:Nat)(k:Nat)(b:f≠k):(D.Fp f a).seen k=D.seen k:=by
 unfold Dk.Fp
 split
 ·unfold Dk.change
  split
  ·exact D.bC k
  ·show Rt (D.waits++[_]) k (D.turn.lasts k)=_;rw[yX,AO (by show ¬(f:Int).toNat=k;omega)]
   have:D.turn.lasts k=D.lasts k:=by unfold Dk.turn;split <;> rfl
   rw[this];rfl
 ·rfl
def Lg.ok.PN{L:Lg}(h:L.ok){a:Dk}(c:a.ok)(d:∀ i f,L.fs[i]? = some f->Bc (a.seen 1) (64+1028*i) 1028=Bc (L.D.seen 1) (64+1028*i) 1028):({ L with D:=a }:Lg).ok :=
 ⟨c,h.frames,λi f b=>(d i f b).trans (h.lies i f b),h.top,h.kept,h.pages,h.slot,h.number⟩
def Lg.ok.same{L:Lg}(h:L.ok){a:Dk}(b:a.ok)(c:a.seen 1=L.D.seen 1):({ L with D:=a }:Lg).ok:=h.PN b λi f d=>by rw[c]
def Lg.ok.there{L:Lg}(h:L.ok){i:Nat}{f:Fr}(a:L.fs[i]? = some f):64+1028*i+1028<=(L.D.seen 1).length :=
 He (h.lies i f a) (Fr.Hz f (h.frames f (F5 a)).2) (by omega)
def Gf(l:List UInt8):(bsOf l).data.toList=l:=Iu l
def Na{L:Lg}(h:L.ok)(n:Int)(t:ByteArray):(L.append n t).ok:=by
 unfold Lg.append
 split
 ·rename_i a;obtain⟨⟨r,s,e⟩,g⟩:=a
  have l:64+1028*(L.fs.length+1)<=67108864:=by unfold Lg.at_ at g;omega
  have j:(Fr.bytes ⟨n.toNat,t⟩).length=1028:=Fr.Hz _ e;have k:=Dk.XL h.disk 1 L.at_ (bsOf (Fr.bytes ⟨n.toNat,t⟩));have b:=Xm L.D 1 L.at_ (bsOf (Fr.bytes ⟨n.toNat,t⟩)) 1;by_cases c:L.D.stops
  ·rw [AO (λp=>p.2.1 c)] at b;rw[AC c];exact h.same k b
  ·rw [AC ⟨⟨by omega,by rw [Df,j];exact g⟩,c,rfl⟩,Gf] at b;rw[AO c];refine⟨k,λf a=>?_,λi f a=>?_,.inl ?_, ?_,h.pages,h.slot,h.number⟩
   ·rcases BO.1 a with a | a
    ·exact h.frames f a
    ·rw[BH.1 a];exact⟨by show n.toNat<_;omega,e⟩
   ·show Bc ((L.D.write 1 L.at_ _).seen 1) _ _=_;rw[show((1:Nat):Int)=1 from rfl]at b;rw[b];by_cases q:i<L.fs.length
    ·simp only [] at a;rw[G9 q]at a;rw[Iz (h.there a) (.inl (by show _<=64+1028*L.fs.length;omega))];exact h.lies i f a
    ·simp only [] at a;rw[GU (by omega)]at a;obtain⟨m,d⟩:=C9.1 a;simp only[JB]at m
     have o:i=L.fs.length:=by omega
     subst o;simp at d;subst d;have:=Oe (L.D.seen 1) L.at_ (Fr.bytes ⟨n.toNat,t⟩);rw[j]at this;exact this
   ·show 64+1028*(L.fs++[_]).length<=_;rw[A8,JB];exact l
   ·show L.kept<=(L.fs++[_]).length;have:=h.kept;rw[A8];omega
 ·exact h
def ZY0(L:Lg)(f p:Nat)(d:L.slot<2)(b n:Nat)(e:64<=b)(c:b+n<=(L.D.seen 1).length):Bc ((L.Cf f p).seen 1) b n=Bc (L.D.seen 1) b n:=by
 have a:=Xm L.D 1 (16+24*(1-L.slot)) (bsOf (slotL (L.number % 3+1) f p)) 1;unfold Lg.Cf;rw[show((1:Nat):Int)=1 from rfl]at a;rw[a]
 split
 ·exact Iz c (.inr (by rw[Gf,Eo];omega))
 ·rfl
def qI{L:Lg}(h:L.ok)(f p:Nat):(L.Cf f p).ok:=Dk.XL h.disk _ _ _
def Lg.ok.tell{L:Lg}(h:L.ok){f p:Nat}(e:f<=L.fs.length)(j:p<4294967296):(L.tell f p).ok:=by
 unfold Lg.tell;have b:∀ i g,L.fs[i]? = some g->Bc ((L.Cf f p).seen 1) (64+1028*i) 1028=Bc (L.D.seen 1) (64+1028*i) 1028:=λi g a=>ZY0 L f p h.slot _ _ (by omega) (h.there a);have c:((L.Cf f p).sync 1).seen 1=(L.Cf f p).seen 1:=Ua _ 1 (by omega) 1 (by omega);have d:=Dk.Qs (qI h f p) 1
 split
 ·exact h.PN (qI h f p) b
 ·split
  ·exact h.PN d λi g a=>by rw[c];exact b i g a
  ·exact⟨d,h.frames,λi g a=>by show Bc (((L.Cf f p).sync 1).seen 1) _ _=_;rw[c,b i g a];exact h.lies i g a,h.top,e,j,by show 1-L.slot<2;omega,by show L.number % 3+1<4;omega⟩
def Lg.ok.UX{L:Lg}(h:L.ok)(k:Nat)(a:k<2):({ L with D:=L.D.sync k }:Lg).ok:=h.same (Dk.Qs h.disk k) (Ua L.D k a 1 (by omega))
def aS{L:Lg}(h:L.ok)(n:Int)(t:ByteArray)(p:Int):(L.Bi n t p).ok:=by
 unfold Lg.Bi
 split
 ·rename_i a
  split
  ·split
   ·exact(Na h n t).UX 1 (by omega)
   ·exact Lg.ok.tell ((Na h n t).UX 1 (by omega)) (AY _) (by omega)
  ·exact Na h n t
 ·exact h
def FE1{L:Lg}(h:L.ok):L.back.ok:=by
 unfold Lg.back;refine⟨h.disk,λf a=>h.frames f (nD a),λi f a=>h.lies i f ?_, ?_, ?_,h.pages,h.slot,h.number⟩
 ·simp only [GZ] at a
  split at a
  ·exact a
  ·cases a
 ·rcases h.top with b | b
  ·refine .inl ?_;show 64+1028*(L.fs.take L.kept).length<=_;rw[CU];omega
  ·refine .inr ?_
   show L.fs.take L.kept=[]
   rw[b,List.take_nil]
 ·show L.kept<=(L.fs.take L.kept).length;have:=h.kept;rw[CU];omega
open Go.BigFrame Go.Maps
def XJ(u:World)(b:List (Option Nat))(gd g m1 m2:Nat)(R':Rw)(v:Value)(e:Ending)(w':World):Prop :=
 e = .returned v/\∃ d a c,LR w' d gd g a c R'/\Turn (b++lb g m1 m2) (d++lb g a c) u w'
def Ei.maps{u:World}{b:List (Option Nat)}{gd g m1 m2:Nat}{R':Rw}{E:Int}{e:Ending}{w':World}(h:Ei u b gd g m1 m2 R' E e w'):XJ u b gd g m1 m2 R' (.int .i64 E) e w':=by
 obtain⟨a,c,d,f⟩:=h;exact⟨a,c,m1,m2,d,f⟩
def Turn.trans'{w0 w w':World}{c d b s s':List (Option Nat)}(h:Turn c d w0 w)(k:Turn s s' w w')(g:∀ k,some k∈s->some k∈d)(j:∀ k,some k∈b->some k∈d\/w0.heap.size<=k):Turn c b w0 w' :=
 ⟨k.os.trans h.os,k.tape.trans h.tape,k.output.trans h.output,BN h.size k.size,λi a e=>(k.block i (DD a h.size) (λl=>by
   rcases h.new i (g i l)with f | f
   ·exact e f
   ·omega)).trans (h.block i a e),λi a=>(j i a).elim (h.new i) .inr⟩
section
variable {w0 w w':World} {b c:List (Option Nat)} {gd g m1 m2 m n:Nat} {R:Rw} {f:Int->Nat}
def LR.xM (h:LR w b gd g m1 m2 R) (t:Turn c (b++lb g m1 m2) w0 w) (u:MP w m n f) (i:some m∉b++lb g m1 m2) (o:w0.heap.size<=m) (p:Nat) :
 LR (((w.setCell ⟨g,1,none⟩ (.int .i64 n)).setCell ⟨g,2,none⟩ (.int .i64 p)).setCell ⟨g,3,none⟩ (.map (some m))) b gd g m m2 { R with nf:=n,np:=p,f1:=f } /\
 Turn c (b++lb g m m2) w0 (((w.setCell ⟨g,1,none⟩ (.int .i64 n)).setCell ⟨g,2,none⟩ (.int .i64 p)).setCell ⟨g,3,none⟩ (.map (some m))):=by
 have e:Turn [some g] [some g] w (((w.setCell ⟨g,1,none⟩ (.int .i64 n)).setCell ⟨g,2,none⟩ (.int .i64 p)).setCell ⟨g,3,none⟩ (.map (some m))):=((Turn.cell g 1 _ w).trans (Turn.cell g 2 _ _)).trans (Turn.cell g 3 _ _);have j:some g∈b++lb g m1 m2:=BC _ (Ht.2 (.inl rfl))
 have q:m≠g:=by rintro rfl;exact i j
 have r:m≠m2:=by rintro rfl;exact i (BC _ (Ht.2 (.inr (.inr rfl))))
 have s:some m∉b:=λa=>i (BL _ a);refine⟨⟨h.disk.turn e λk d a=>?_,((h.has.set 1 _).set 2 _).set 3 _,u.turn e λl=>q (by simpa using l),h.map2.turn e λl=>h.YP (by simpa using l:m2=g).symm,r,λk d a=>?_⟩, ?_⟩
 ·have:k=g:=by simpa using d
  subst this;exact h.off.1 a
 ·rcases Ht.1 a with rfl | rfl | rfl
  ·exact h.off.1 d
  ·exact s d
  ·exact h.off.2.2 d
 ·refine t.trans' e (λk d=>?_) (λk d=>?_)
  ·have:k=g:=by simpa using d
   subst this;exact j
  ·rcases BO.1 d with a | a
   ·exact .inl (BL _ a)
   ·rcases Ht.1 a with rfl | rfl | rfl
    ·exact .inl j
    ·exact .inr o
    ·exact .inl (BC _ (Ht.2 (.inr (.inr rfl))))
end
def LR.now{w:World}{b:List (Option Nat)}{gd g m1 m2:Nat}{R:Rw}(h:LR w b gd g m1 m2 R):w.cell? ⟨g,1,none⟩=some (.int .i64 R.nf)/\w.cell? ⟨g,2,none⟩=some (.int .i64 R.np)/\w.cell? ⟨g,3,none⟩=some (.map (some m1)):=⟨h.has.cell 1,h.has.cell 2,h.has.cell 3⟩
def LR.old{w:World}{b:List (Option Nat)}{gd g m1 m2:Nat}{R:Rw}(h:LR w b gd g m1 m2 R):w.cell? ⟨g,4,none⟩=some (.int .i64 R.kf)/\w.cell? ⟨g,5,none⟩=some (.int .i64 R.kp)/\w.cell? ⟨g,6,none⟩=some (.map (some m2)):=⟨h.has.cell 4,h.has.cell 5,h.has.cell 6⟩
def Rw.back(R:Rw):Rw:={ R with nf:=R.kf,np:=R.kp,f1:=R.f2 }
def KT1 (b:List (Option Nat)) (gd g m1 m2:Nat) (R:Rw) (w:World) (h:LR w b gd g m1 m2 R) (l:R.kf<=1000000) :
 Calls Tryz.prog 163 #[.pointer (some ⟨g,0,none⟩)] w (XJ w b gd g m1 m2 R.back (.tuple #[])):=by
 have a:=Ac h;have u:w.cell? ⟨g,4,none⟩=some (.int .i64 R.kf):=h.has.cell 4;have v:w.cell? ⟨g,5,none⟩=some (.int .i64 R.kp):=h.has.cell 5;have x:w.cell? ⟨g,6,none⟩=some (.map (some m2)):=h.has.cell 6;have y:=h.has.frozen;have z:=h.has.lt;have n:=Ac (λw1 (o:MP w1 m2 R.kf R.f2)=>Ug m2 R.kf R.kp R.kf R.f2 w1 l o);clear h;go_enter Tryz.func163,Tryz.ntmps163
 go_wp2_with ((go_at_call 115;refine(n _ a.map2).mono ?_);rintro e w1 ⟨m,rfl,f,d,c⟩;have p:=Ac f;have i:=Ac d;have j:=Ac c;have A:=(a.below c).has.lt;have k:=(a.below c).now;have B:=(a.below c).has.frozen;clear f d c;obtain⟨k,C,D⟩:=k)
 go_end0
 have q:=a.below j;obtain⟨r,s⟩:=q.xM (Turn.below _ j) p (λt=>by have:=a.lt t;have:=i.out;omega) i R.kp;exact⟨rfl,b,m,m2,r,s⟩
def aZ(b:List (Option Nat))(gd g m1 m2:Nat)(R:Rw)(w:World)(h:LR w b gd g m1 m2 R):Calls Tryz.prog 39 #[.pointer (some ⟨g,0,none⟩)] w λe w'=>e = .returned (.int .i64 R.kp)/\w=w':=by
 have a:w.cell? ⟨g,5,none⟩=some (.int .i64 R.kp):=h.has.cell 5;go_enter Tryz.func39,Tryz.ntmps39
 go_wp2_with fail
 go_ret;exact⟨rfl,rfl⟩
def yV(b:List (Option Nat))(gd g m1 m2:Nat)(R:Rw)(w:World)(h:LR w b gd g m1 m2 R):Calls Tryz.prog 89 #[.pointer (some ⟨g,0,none⟩)] w λe w'=>e = .returned (.int .i64 R.nf)/\w=w':=by
 have a:w.cell? ⟨g,1,none⟩=some (.int .i64 R.nf):=h.has.cell 1;go_enter Tryz.func89,Tryz.ntmps89
 go_wp2_with fail
 go_ret;exact⟨rfl,rfl⟩
end Go.Proofs.YtjihboddejaelaaGreat
namespace Go.Proofs.YtjihboddejaelaaGreat
open Go.RowKit
def FL1(L:Lg){D:Dk}(h:D.ok)(m:Nat):(L.Vg D m).ok/\(L.Vg D m).seen 1=D.seen 1:=by
 unfold Lg.Vg
 split
 ·refine ⟨Dk.XL h _ _ _, ?_⟩;have:=Xm D 0 (1024*m) (((L.fs[Aw L.fs m-1]?).map (·.text)).getD ⟨#[]⟩) 1;rw[AO (λa=>by omega)]at this;exact this
 ·exact⟨h,rfl⟩
def ZK (L:Lg):∀ (k m:Nat) (D:Dk),D.ok->(L.puts k m D).1.ok/\(L.puts k m D).1.seen 1=D.seen 1
 | 0,m,D,h=>⟨h,rfl⟩
 | k+1,m,D,h=>by
   obtain⟨a,b⟩:=FL1 L h m;rw[Lg.puts]
   split
   ·obtain ⟨c,d⟩:=ZK L k (m+1) _ a;exact⟨c,d.trans b⟩
   ·exact⟨a,b⟩
def FU1{L:Lg}(h:L.ok){D:Dk}(k:D.ok)(l:D.seen 1=L.D.seen 1):(L.Gs D).1.ok:=by
 unfold Lg.Gs;have c:(D.Fp 0 (1024*L.pages:Nat)).ok:=Dk.Y5 k _ _;have g:(D.Fp 0 (1024*L.pages:Nat)).seen 1=L.D.seen 1:=(pR D 0 (1024*L.pages) 1 (by omega)).trans l;have j:((D.Fp 0 (1024*L.pages:Nat)).sync 0).seen 1=L.D.seen 1:=(Ua _ 0 (by omega) 1 (by omega)).trans g
 split
 ·exact h.same c g
 ·split
  ·exact h.same (Dk.Qs c 0) j
  ·have m:=h.same (Dk.Qs c 0) j;have b:=m.tell (f:=0) (p:=L.pages) (BR _) h.pages;simp only
   split
   ·exact⟨b.disk,(λf d=>by cases d),(λi f d=>by simp at d),.inr rfl,by
     rename_i a
     have:(({ L with D:=(D.Fp 0 (1024*L.pages:Nat)).sync 0 }:Lg).tell 0 L.pages).kept=0:=by
      unfold Lg.Eb at a;unfold Lg.tell
      split
      ·rename_i e;rw[AC e]at a;cases a
      ·rename_i e;rw[AO e]at a
       split
       ·rename_i n;unfold Dk.Dw at a;rw[AC n]at a;cases a
       ·rfl
     rw[this];exact BR _,b.pages,b.slot,b.number⟩
   ·exact b
def MR0{L:Lg}(h:L.ok):L.Ah.1.ok:=by
 unfold Lg.Ah;obtain⟨a,b⟩:=ZK L L.pages 0 L.D h.disk
 split
 ·exact h
 ·split
  ·exact h
  ·split
   ·exact h.same a b
   ·exact FU1 h a b
def Zk{l:List UInt8}{k:Nat}(h:(Az l k).1≠0):(Az l k).1<=3/\((Az l k).2.1=0\/64+1028*(Az l k).2.1<=l.length)/\(Az l k).2.2<4294967296:=by
 unfold Az at h ⊢
 split at h
 ·exact absurd rfl h
 ·rename_i b;rw[AO b];simp only at h ⊢
  split at h
  ·exact absurd rfl h
  ·rename_i a;rw[AO a];dsimp only;refine⟨?_, ?_, ?_⟩
   ·exact FC λc=>a (.inr (.inl (by omega)))
   ·exact FC λc=>a (.inr (.inr (by omega)))
   ·exact RZ 4 _ (by rw[Gy,Gy];omega)
def Zg{l:List UInt8}(h:Cj l≠2):Cj l<2/\(Az l (Cj l)).1≠0/\l.take 16=Jb:=by
 unfold Cj at h ⊢
 split at h
 ·exact absurd rfl h
 ·rename_i c;rw[AO c];have d:l.take 16=Jb:=FC λb=>c (.inl b)
  split
  ·rename_i a;refine⟨by omega,λb=>?_,d⟩
   rcases a with a | a
   ·exact c (.inr ⟨a,b⟩)
   ·exact a.1 b
  ·rename_i a;exact⟨by omega,λb=>a (.inl b),d⟩
def Ku(l:List UInt8)(f i:Nat)(g:Fr)(h:(Eh l f)[i]? = some g):i<f/\g=Oy l i:=by
 unfold Eh at h;rw[GH,Aa1]at h;obtain⟨j,a,rfl⟩:=h;have b:=(C9.1 a).1;rw[List.length_range]at b;rw[YG b]at a
 cases a
 exact⟨b,rfl⟩
def Hl(l:List UInt8)(f:Nat):(Eh l f).length=f:=by unfold Eh;rw[BZ,List.length_range]
def DO0{l:List UInt8}{f i:Nat}(h:64+1028*f<=l.length)(d:i<f):(Oy l i).n<4294967296/\(Oy l i).text.size=1024/\Bc l (64+1028*i) 1028=(Oy l i).bytes:=by
 refine⟨RZ 4 _ (by rw[Gy];omega),by unfold Oy;rw[Df,Gy];omega, ?_⟩;unfold Fr.bytes Oy;rw[Gf,ZG _ 4 (by rw[Gy];omega)];refine JC λj=>?_;rw[Ee]
 have b:(Bc l (64+1028*i) 4).length=4:=by rw[Gy];omega
 by_cases c:j<4
 ·rw[AC (by omega),G9 (by omega),Ee,AC c]
 ·rw [GU (by omega),b,Ee];by_cases a:j<1028
  ·rw[AC a,AC (by omega)];congr 1;omega
  ·rw[AO a,AO (by omega)]
def vU{D:Dk}(h:D.ok):(Lg.opened D).ok:=by
 have q:=h.seen 0;have r:=h.seen 1;unfold Lg.opened
 split
 ·have g:(D.seen 0).length / 1024<4294967296:=by omega
  have e:(Ti D).ok:=Dk.Qs (Dk.XL (Dk.Qs (Dk.Y5 h _ _) _) _ _ _) _;generalize Ti D=X at e ⊢;refine⟨e, ?_, ?_, ?_, ?_, ?_, ?_, ?_⟩
  ·exact λf a=>by cases a
  ·exact λi f a=>by simp at a
  ·exact .inr rfl
  ·exact BR _
  ·exact g
  ·exact Nat.zero_lt_two
  ·exact(by omega:1<4)
 ·rename_i j;obtain⟨k,m,s⟩:=Zg j;obtain⟨n,b,o⟩:=Zk m;have c:=Hl (D.seen 1) (Az (D.seen 1) (Cj (D.seen 1))).2.1;refine⟨h,λf a=>?_,λi f a=>?_, ?_, ?_,o,k,Nat.lt_succ_of_le n⟩
  ·obtain ⟨i,p⟩:=dD a;obtain⟨d,rfl⟩:=Ku _ _ _ _ p;have:=DO0 (l:=D.seen 1) (f:=(Az (D.seen 1) (Cj (D.seen 1))).2.1) (by omega) d;exact⟨this.1,this.2.1⟩
  ·obtain ⟨d,rfl⟩:=Ku _ _ _ _ a;exact(DO0 (l:=D.seen 1) (f:=(Az (D.seen 1) (Cj (D.seen 1))).2.1) (by omega) d).2.2
  ·rcases b with b | b
   ·refine .inr (MI ?_);show(Eh _ _).length=0;rw[c,b]
   ·refine .inl ?_;show 64+1028*(Eh _ _).length<=_;rw[c];omega
  ·show _<=(Eh _ _).length;rw[c];exact AY _
def Js (R:Rw) (n:Int) (t:ByteArray) (p:Nat):Nat->Rw
 | 0=>R
 | 1=>R.app n t
 | 2=>{ R.app n t with D:=(R.app n t).D.sync 1 }
 | _=>({ R.app n t with D:=(R.app n t).D.sync 1 }:Rw).tell (R.app n t).nf p
def Dh (R:Rw) (n:Int) (t:ByteArray) (p:Nat):Nat->Int
 | 0=>R.L6 n t
 | 1=>(R.app n t).D.Pq 1
 | _=>({ R.app n t with D:=(R.app n t).D.sync 1 }:Rw).Eb (R.app n t).nf p
def Rw.Bi(R:Rw)(n:Int)(t:ByteArray)(p:Int):Rw :=
 if 1<=p/\p<=65536 then
  let C:=Js R n t p.toNat (upTo (Dh R n t p.toNat) 3).1
  if(upTo (Dh R n t p.toNat) 3).2=0 then{ C with np:=p.toNat,kf:=C.nf,kp:=p.toNat,f2:=C.f1 }else C
 else R
def Rw.Ez(R:Rw)(n:Int)(t:ByteArray)(p:Int):Int:=if 1<=p/\p<=65536 then(upTo (Dh R n t p.toNat) 3).2 else 1
def UW(a:Nat->Int):upTo a 3=if a 0≠0 then(1,a 0)else if a 1≠0 then(2,a 1)else(3,a 2):=by
 by_cases c:a 0=0
 ·rw [AO (by simpa using c)]
  have b:upTo a 1=(1,0):=by rw[Gv rfl];show(0+1,a 0)=_;rw[c]
  by_cases d:a 1=0
  ·rw [AO (by simpa using d)]
   have e:upTo a 2=(2,0):=by rw[Gv b,d]
   rw[Gv e]
  ·rw [AC d];have e:upTo a 2=(2,a 1):=Gv b;rw[Xj (i:=2) (by rw[e];exact d) (by omega),e]
 ·rw [AC c];have b:upTo a 1=(1,a 0):=Gv rfl;rw[Xj (i:=1) (by rw[b];exact c) (by omega),b]
def ZT{L:Lg}{R:Rw}(b:L.D=R.D)(c:L.fs.length=R.nf)(a:L.pages=R.np)(d:∀ x,Aw L.fs x=R.f1 x)(e:L.kept=R.kf)(f:L.pages=R.kp)(g:∀ x,Aw (L.fs.take L.kept) x=R.f2 x)(h:L.slot=R.slot)(i:L.number=R.number):L.rw=R:=by
 obtain⟨D,nf,np,f1,kf,kp,f2,j,k⟩:=R;simp only at b c a d e f g h i;unfold Lg.rw;rw[b,c,a,show(λx=>Aw L.fs x)=f1 from funext d,show(λx=>Aw (L.fs.take L.kept) x)=f2 from funext g,e,<- a,f,h,i]
def NR1{L:Lg}(h:L.ok):L.back.rw=L.rw.back:=by
 have a:=h.kept;refine ZT rfl ?_ rfl (λx=>rfl) rfl rfl (λx=>?_) rfl rfl
 ·show (L.fs.take L.kept).length=L.kept;rw[CU];omega
 ·show Aw ((L.fs.take L.kept).take L.kept) x=_;rw[MF,Nat.min_self];rfl
def Fj(D:Dk):D.Dw=0↔¬ D.stops:=by
 unfold Dk.Dw
 split
 ·rename_i h;exact⟨λa=>(by cases a),λa=>absurd h a⟩
 ·rename_i h;exact⟨λ_=>h,λ_=>rfl⟩
def GE0{D:Dk}{f a:Nat}{s:ByteArray}(h:f<2/\a+s.size<=67108864):D.Ji f a s=D.Dw:=AC (Oq.2 h)
def Yg{D:Dk}{f:Nat}(h:f<2):D.Pq f=D.Dw:=AC (by omega)
def xN{L:Lg}(h:L.ok)(n:Int)(t:ByteArray):(L.append n t).rw=L.rw.app n t/\L.Dp n t=L.rw.L6 n t:=by
 unfold Lg.append Rw.app Lg.Dp Rw.L6;have m:L.rw.at_=L.at_:=rfl;have o:L.RX n t↔Tt n t:=Iff.rfl;simp only[m,o];by_cases c:Tt n t
 ·by_cases b:L.at_+1028<=67108864
  ·obtain ⟨j,p,k⟩:=c;have q:(Fr.bytes ⟨n.toNat,t⟩).length=1028:=Fr.Hz _ k;have r:L.rw.D.Ji 1 L.at_ (JY n t)=L.D.Dw:=GE0 (f:=1) ⟨by omega,by unfold JY;rw[Df,q];exact b⟩;have i:Tt n t:=⟨j,p,k⟩;have l:Tt n t/\L.at_+1028<=67108864:=⟨i,b⟩;rw[AC l,AC l,AC i,AC b,AC i,AC b,r];refine⟨?_,rfl⟩;by_cases d:L.D.stops
   ·rw[AC d,AO (by rw[Fj];exact λa=>a d)];rfl
   ·rw [AO d,AC ((Fj _).2 d)];refine ZT rfl ?_ rfl (λx=>?_) rfl rfl (λx=>?_) rfl rfl
    ·show (L.fs++[_]).length=L.fs.length+1;rw[A8];rfl
    ·show Aw (L.fs++[_]) x=if x=n then L.fs.length+1 else Aw L.fs x;rw[Ri];have s:((n.toNat:Nat):Int)=n:=OU j;show(if((n.toNat:Nat):Int)=x then _ else _)=_;rw[s];by_cases g:n=x
     ·rw[AC g,AC g.symm]
     ·rw[AO g,AO (λe=>g e.symm)]
    ·show Aw ((L.fs++[_]).take L.kept) x=Aw (L.fs.take L.kept) x;rw[TC h.kept]
  ·rw[AO (λa=>b a.2),AO (λa=>b a.2),AC c,AO b,AC c,AO b];exact⟨rfl,rfl⟩
 ·rw[AO (λa=>c a.1),AO (λa=>c a.1),AO c,AO c];exact⟨rfl,rfl⟩
def qL{L:Lg}(h:L.ok)(f p:Nat):L.rw.KG f p=L.D.Dw :=
 GE0 (f:=1) ⟨by omega,by rw[Df,Eo];omega⟩
def rF{L:Lg}(h:L.ok)(f p:Nat):L.Eb f p=L.rw.Eb f p:=by
 unfold Lg.Eb Rw.Eb;rw[qL h];by_cases a:L.D.stops
 ·rw[AC a,AC (by unfold Dk.Dw;rw[AC a];decide)];unfold Dk.Dw;rw[AC a]
 ·rw [AO a,AO (by rw [(Fj _).2 a];simp)];exact(Yg (D:=L.Cf f p) (f:=1) (by omega)).symm
def DU1{L:Lg}(h:L.ok)(f p:Nat):(L.tell f p).rw=if L.Eb f p=0 then{ L.rw.tell f p with np:=p,kf:=f,kp:=p,f2:=λx=>Aw (L.fs.take f) x }else L.rw.tell f p:=by
 have i:=qL h f p;have j:(L.rw.Cf f p).Pq 1=(L.Cf f p).Dw:=Yg (f:=1) (by omega);by_cases a:L.D.stops
 ·have b:L.D.Dw=2:=AC a;have e:L.Eb f p=2:=AC a;have c:L.tell f p={ L with D:=L.Cf f p }:=AC a;have d:L.rw.tell f p={ L.rw with D:=L.rw.Cf f p }:=AC (by rw[i,b];decide);rw[e,c,d,AO (by decide)];rfl
 ·have l:=(Fj _).2 a
  have k:¬(L.rw.KG f p≠0):=by rw[i,l];simp
  have e:L.Eb f p=(L.Cf f p).Dw:=AO a;by_cases g:(L.Cf f p).stops
  ·have b:(L.Cf f p).Dw=2:=AC g;have c:L.tell f p={ L with D:=(L.Cf f p).sync 1 }:=(AO a).trans (AC g);have d:L.rw.tell f p={ L.rw with D:=(L.rw.Cf f p).sync 1 }:=(AO k).trans (AC (by rw[j,b];decide));rw[e,c,d,b,AO (by decide)];rfl
  ·have b:(L.Cf f p).Dw=0:=(Fj _).2 g;have c:L.tell f p={ L with D:=(L.Cf f p).sync 1,slot:=1-L.slot,number:=L.number % 3+1,kept:=f,pages:=p }:=(AO a).trans (AO g);have d:L.rw.tell f p={ L.rw with D:=(L.rw.Cf f p).sync 1,slot:=1-L.rw.slot,number:=L.rw.number % 3+1 }:=(AO k).trans (AO (by rw[j,b];simp));rw[e,c,d,b,AC rfl];rfl
def jI(R:Rw)(f p:Nat):(R.tell f p).nf=R.nf/\(R.tell f p).f1=R.f1/\(R.tell f p).kp=R.kp/\(R.tell f p).np=R.np/\(R.tell f p).kf=R.kf/\(R.tell f p).f2=R.f2:=by
 unfold Rw.tell;split
 ·exact⟨rfl,rfl,rfl,rfl,rfl,rfl⟩
 ·split <;> exact⟨rfl,rfl,rfl,rfl,rfl,rfl⟩
def GC1{L:Lg}(h:L.ok)(n:Int)(t:ByteArray)(p:Int):(L.Bi n t p).rw=L.rw.Bi n t p/\L.Ez n t p=L.rw.Ez n t p:=by
 obtain⟨d,q⟩:=xN h n t;by_cases a:1<=p/\p<=65536
 ·have r:L.rw.Bi n t p=if (upTo (Dh L.rw n t p.toNat) 3).2=0 then { Js L.rw n t p.toNat (upTo (Dh L.rw n t p.toNat) 3).1 with np:=p.toNat,kf:=(Js L.rw n t p.toNat (upTo (Dh L.rw n t p.toNat) 3).1).nf,kp:=p.toNat,f2:=(Js L.rw n t p.toNat (upTo (Dh L.rw n t p.toNat) 3).1).f1 } else Js L.rw n t p.toNat (upTo (Dh L.rw n t p.toNat) 3).1:=AC a;have s:L.rw.Ez n t p=(upTo (Dh L.rw n t p.toNat) 3).2:=AC a;have c0:Dh L.rw n t p.toNat 0=L.Dp n t:=q.symm
  have v:(L.rw.app n t).D=(L.append n t).D:=by rw[<- d];rfl
  have j:Dh L.rw n t p.toNat 1=(L.append n t).D.Dw:=by
   show(L.rw.app n t).D.Pq 1=_;rw[v];exact Yg (f:=1) (by omega)
  rw[r,s];by_cases b:L.Dp n t=0
  ·by_cases c:(L.append n t).D.stops
   ·have i:(L.append n t).D.Dw=2:=AC c
    have u:upTo (Dh L.rw n t p.toNat) 3=(2,2):=by rw[UW,c0,j,AO (λe=>e b),i,AC (by decide)]
    have l1:L.Bi n t p={ L.append n t with D:=(L.append n t).D.sync 1 }:=(AC a).trans ((AC b).trans (AC c));have l2:L.Ez n t p=2:=(AC a).trans ((AC b).trans (AC c));rw[u,l1,l2];refine⟨?_,rfl⟩;rw[AO (by decide)]
    show({ L.append n t with D:=(L.append n t).D.sync 1 }:Lg).rw={ L.rw.app n t with D:=(L.rw.app n t).D.sync 1 }
    rw[<- d];rfl
   ·have i:(L.append n t).D.Dw=0:=(Fj _).2 c
    have u:upTo (Dh L.rw n t p.toNat) 3=(3,Dh L.rw n t p.toNat 2):=by rw[UW,c0,j,AO (λe=>e b),i,AO (λe=>e rfl)]
    have l1:L.Bi n t p=({ L.append n t with D:=(L.append n t).D.sync 1 }:Lg).tell (L.append n t).fs.length p.toNat:=(AC a).trans ((AC b).trans (AO c));have l2:L.Ez n t p=({ L.append n t with D:=(L.append n t).D.sync 1 }:Lg).Eb (L.append n t).fs.length p.toNat:=(AC a).trans ((AC b).trans (AO c));have k:({ L.append n t with D:=(L.append n t).D.sync 1 }:Lg).ok:=(Na h n t).UX 1 (by omega)
    have l:({ L.rw.app n t with D:=(L.rw.app n t).D.sync 1 }:Rw)=({ L.append n t with D:=(L.append n t).D.sync 1 }:Lg).rw:=by rw[<- d];rfl
    have m:(L.rw.app n t).nf=(L.append n t).fs.length:=by rw[<- d];rfl
    have w:Dh L.rw n t p.toNat 2=({ L.append n t with D:=(L.append n t).D.sync 1 }:Lg).rw.Eb (L.append n t).fs.length p.toNat:=by
     show({ L.rw.app n t with D:=(L.rw.app n t).D.sync 1 }:Rw).Eb (L.rw.app n t).nf p.toNat=_;rw[l,m]
    have y:Js L.rw n t p.toNat 3=({ L.append n t with D:=(L.append n t).D.sync 1 }:Lg).rw.tell (L.append n t).fs.length p.toNat:=by
     show({ L.rw.app n t with D:=(L.rw.app n t).D.sync 1 }:Rw).tell (L.rw.app n t).nf p.toNat=_;rw[l,m]
    have o:({ L.append n t with D:=(L.append n t).D.sync 1 }:Lg).fs=(L.append n t).fs:=rfl;rw[u,l1,l2];generalize ({ L.append n t with D:=(L.append n t).D.sync 1 }:Lg)=M at *;have z:=DU1 k (L.append n t).fs.length p.toNat;have A:=rF k (L.append n t).fs.length p.toNat;dsimp only;rw[w,y,<- A];refine⟨?_,rfl⟩;rw[z];by_cases g:M.Eb (L.append n t).fs.length p.toNat=0
    ·rw [AC g,AC g];obtain⟨B,C,_⟩:=jI M.rw (L.append n t).fs.length p.toNat;dsimp only
     have E:(λx=>Aw (M.fs.take (L.append n t).fs.length) x)=M.rw.f1:=funext λx=>by
      show Aw (M.fs.take (L.append n t).fs.length) x=Aw M.fs x;rw[<- o,QU]
     have F:(L.append n t).fs.length=M.rw.nf:=by rw[<- o];rfl
     rw[B,C,E,<- F]
    ·rw[AO g,AO g]
  ·have u:upTo (Dh L.rw n t p.toNat) 3=(1,L.Dp n t):=by rw [UW,c0,AC b]
   have l1:L.Bi n t p=L.append n t:=(AC a).trans (AO b);have l2:L.Ez n t p=L.Dp n t:=(AC a).trans (AO b);rw[u,l1,l2];refine⟨?_,rfl⟩;dsimp only;rw[AO b];exact d
 ·exact⟨(D8 Lg.rw (AO a)).trans (AO a).symm,(AO a).trans (AO a).symm⟩
def Rw.OY(R:Rw)(n:Int):Int:=64+((R.f1 n:Int)-1)*1028+4
def Rw.Fa(R:Rw)(n:Int):ByteArray :=
 if 0<=n/\n<=2147483647 then
  if R.f1 n≠0 then R.D.Fa 1 (R.OY n) 1024
  else if R.D.Vl 0≠0 then⟨#[]⟩else if R.D.Zo 0 / 1024<=n then⟨#[]⟩else R.D.Fa 0 (n*1024) 1024
 else⟨#[]⟩
def Rw.Dy(R:Rw)(n:Int):Int :=
 if 0<=n/\n<=2147483647 then
  if R.f1 n≠0 then R.D.Dy 1 (R.OY n) 1024
  else if R.D.Vl 0≠0 then R.D.Vl 0 else if R.D.Zo 0 / 1024<=n then 7 else R.D.Dy 0 (n*1024) 1024
 else 1
def Rw.Vg(R:Rw)(m:Nat):Rw:=if R.f1 m=0 then R else if R.Dy m≠0 then R else{ R with D:=R.D.write 0 (m*1024:Nat) (R.Fa m) }
def Rw.Qk(R:Rw)(m:Nat):Int:=if R.f1 m=0 then 0 else if R.Dy m≠0 then R.Dy m else R.D.Ji 0 (m*1024:Nat) (R.Fa m)
def Rw.puts:Nat->Nat->Rw->Rw×Int
 | 0,_,R=>(R,0)
 | k+1,m,R=>if R.Qk m=0 then Rw.puts k (m+1) (R.Vg m)else(R.Vg m,R.Qk m)
def Vm (R:Rw) (p:Nat):Nat->Rw
 | 0=>R
 | 1=>{ R with D:=R.D.Fp 0 (p*1024:Nat) }
 | 2=>{ R with D:=(R.D.Fp 0 (p*1024:Nat)).sync 0 }
 | _=>({ R with D:=(R.D.Fp 0 (p*1024:Nat)).sync 0 }:Rw).tell 0 p
def Et (R:Rw) (p:Nat):Nat->Int
 | 0=>R.D.IM 0 (p*1024:Nat)
 | 1=>(R.D.Fp 0 (p*1024:Nat)).Pq 0
 | _=>({ R with D:=(R.D.Fp 0 (p*1024:Nat)).sync 0 }:Rw).Eb 0 p
def Rw.Gs(R:Rw):Rw×Int :=
 let C:=Vm R R.np (upTo (Et R R.np) 3).1
 if(upTo (Et R R.np) 3).2=0 then({ C with nf:=0,np:=C.kp,f1:=λ_=>0,kf:=0,kp:=C.kp,f2:=λ_=>0 },0)else(C,(upTo (Et R R.np) 3).2)
def Rw.Ah(R:Rw):Rw×Int :=
 if R.nf≠R.kf then(R,11)else if R.nf=0 then(R,0)
 else if(Rw.puts R.np 0 R).2≠0 then Rw.puts R.np 0 R else(Rw.puts R.np 0 R).1.Gs
def YM0{L:Lg}(h:L.ok){i:Nat}{f:Fr}(a:L.fs[i]? = some f):Bc (L.D.seen 1) (64+1028*i+4) 1024=f.text.data.toList:=by
 have b:=h.lies i f a;have c:=(h.frames f (F5 a)).2;rw[<- lC (L.D.seen 1) (64+1028*i) 1028 4 1024 (by omega),b];unfold Bc Fr.bytes;rw[VP (by rw[Bj];omega),IY (by rw[Bj];omega),JU,EE (by rw[JX];show f.text.size<=_;omega)]
def QN1{L:Lg}(h:L.ok)(b:L.D.down=false){n:Int}(d:Aw L.fs n≠0):L.rw.D.Dy 1 (L.rw.OY n) 1024=0/\L.rw.D.Fa 1 (L.rw.OY n) 1024=((L.fs[Aw L.fs n-1]?).map (·.text)).getD ⟨#[]⟩:=by
 obtain⟨f,a,_⟩:=kN L.fs n d;have g:=h.there a;have i:=h.disk.seen 1
 have e:L.rw.OY n=(64+1028*(Aw L.fs n-1)+4:Nat):=by
  unfold Rw.OY;show 64+((Aw L.fs n:Int)-1)*1028+4=_;omega
 have c:Jr 1 (64+1028*(Aw L.fs n-1)+4:Nat) 1024:=by unfold Jr;omega
 rw[e,a];unfold Dk.Dy Dk.Fa;rw[AC c];constructor
 ·show (if L.D.down=true then 2 else if ((64+1028*(Aw L.fs n-1)+4:Nat):Int)+1024<=((L.D.seen 1).length:Int) then 0 else 3)=(0:Int)
  rw[AO (by rw[b];decide),AC (by omega)]
 ·rw [AC ⟨c,b,by show ((64+1028*(Aw L.fs n-1)+4:Nat):Int)+1024<=((L.D.seen 1).length:Int);omega⟩];show bsOf (Bc (L.D.seen 1) (64+1028*(Aw L.fs n-1)+4) 1024)=f.text;rw[YM0 h a,WS]
def fU{L:Lg}(h:L.ok)(e:L.D.down=false)(n:Int):L.Fa n=L.rw.Fa n/\L.Dy n=L.rw.Dy n:=by
 by_cases a:0<=n/\n<=2147483647
 ·have j:0<=n/\n<=2147483647/\L.D.down=false:=⟨a.1,a.2,e⟩
  have nd:¬(L.D.down=true):=by rw[e];decide
  by_cases b:Aw L.fs n≠0
  ·obtain ⟨o,p⟩:=QN1 h e b;have c:L.rw.f1 n≠0:=b;exact⟨((AC j).trans (AC b)).trans (p.symm.trans ((AC a).trans (AC c)).symm),((AC a).trans ((AO nd).trans (AC b))).trans (o.symm.trans ((AC a).trans (AC c)).symm)⟩
  ·have t:=h.disk.seen 0;have c:¬ L.rw.f1 n≠0:=b;have q:L.rw.D.Vl 0=0:=(AC (show(0:Int)<=0/\(0:Int)<2 by omega)).trans (AO nd);have f:¬(L.rw.D.Vl 0≠0):=λg=>g q;have l:L.rw.D.Zo 0=((L.D.seen 0).length:Int):=AC ⟨by omega,by omega,e⟩;by_cases i:n<((L.D.seen 0).length / 1024:Nat)
   ·have m:Jr 0 (n*1024) 1024:=by unfold Jr;omega
    have d:¬(L.rw.D.Zo 0 / 1024<=n):=by rw[l];omega
    have k:n*1024+1024<=((L.D.seen 0).length:Int):=by omega
    have r:L.rw.D.Dy 0 (n*1024) 1024=0:=(AC m).trans ((AO nd).trans (AC k))
    have s:L.rw.D.Fa 0 (n*1024) 1024=bsOf (Bc (L.D.seen 0) (1024*n.toNat) 1024):=by
     refine(AC ⟨m,e,k⟩).trans ?_;show bsOf (((L.D.seen 0).drop (n*1024).toNat).take 1024)=bsOf (((L.D.seen 0).drop (1024*n.toNat)).take 1024);rw[show(n*1024).toNat=1024*n.toNat by omega]
    exact ⟨((AC j).trans ((AO b).trans (AC i))).trans (s.symm.trans ((AC a).trans ((AO c).trans ((AO f).trans (AO d)))).symm),
     ((AC a).trans ((AO nd).trans ((AO b).trans (AC i)))).trans (r.symm.trans ((AC a).trans ((AO c).trans ((AO f).trans (AO d)))).symm)⟩
   ·have d:L.rw.D.Zo 0 / 1024<=n:=by rw [l];omega
    exact ⟨((AC j).trans ((AO b).trans (AO i))).trans ((AC a).trans ((AO c).trans ((AO f).trans (AC d)))).symm,
     ((AC a).trans ((AO nd).trans ((AO b).trans (AO i)))).trans ((AC a).trans ((AO c).trans ((AO f).trans (AC d)))).symm⟩
 ·exact⟨(AO (λg=>a ⟨g.1,g.2.1⟩)).trans (AO a).symm,(AO a).trans (AO a).symm⟩
def YX0{D:Dk}{f a:Int}{s:ByteArray}(d:D.down=false)(b:D.Ji f a s=0):(D.write f a s).down=false:=by
 unfold Dk.Ji at b;unfold Dk.write
 split at b
 ·rename_i e;rw[AC e];have c:=(Fj D).1 b;unfold Dk.change;rw[AO c];show D.turn.down=false;unfold Dk.turn;rw[AO c];exact d
 ·cases b
def NX1{L:Lg}(h:L.ok)(c:L.D.down=false)(m:Nat):({ L with D:=L.Vg L.D m }:Lg).rw=L.rw.Vg m/\L.Qk L.D m=L.rw.Qk m:=by
 unfold Lg.Vg Rw.Vg Lg.Qk Rw.Qk;by_cases a:Aw L.fs m≠0
 ·have b:¬ L.rw.f1 m=0:=a;rw[AC a,AC a,AO b,AO b];obtain⟨i,f⟩:=fU h c m;by_cases l:m<=2147483647
  ·have d:0<=(m:Int)/\(m:Int)<=2147483647:=by omega
   have j:L.rw.Fa m=((L.fs[Aw L.fs m-1]?).map (·.text)).getD ⟨#[]⟩:=by
    rw[<- i];unfold Lg.Fa;rw[AC ⟨d.1,d.2,c⟩,AC a]
   have e:L.rw.Dy m=0:=by
    rw[<- f];unfold Lg.Dy;rw[AC d,AO (by rw[c];decide),AC a]
   rw[e,AO (by simp),AO (by simp),j,JA m 1024];exact⟨rfl,rfl⟩
  ·have e:L.rw.Dy m=1:=by
    rw[<- f];unfold Lg.Dy;rw[AO (by omega)]
   have g:∀ s:ByteArray,¬ Jr 0 (1024*m:Nat) s.size:=λs=>by unfold Jr;omega
   rw[e,AC (by decide),AC (by decide)];unfold Dk.write Dk.Ji;rw[AO (g _),AO (g _)];exact⟨rfl,rfl⟩
 ·have b:L.rw.f1 m=0:=FC λk=>a k;rw[AO a,AO a,AC b,AC b];exact⟨rfl,rfl⟩
def FV1{L:Lg}(b:L.D.down=false)(m:Nat)(a:L.Qk L.D m=0):(L.Vg L.D m).down=false:=by
 unfold Lg.Qk at a;unfold Lg.Vg
 split
 ·rename_i c;rw[AC c]at a;exact YX0 b a
 ·exact b
def xI (L:Lg) (X:Dk):∀ (k m:Nat) (D:Dk),({ L with D:=X }:Lg).puts k m D=L.puts k m D
 | 0,m,D=>rfl
 | k+1,m,D=>by
   rw[Lg.puts,Lg.puts,xI L X k];rfl
def FC1:∀ (k m:Nat) (L:Lg),L.ok->L.D.down=false->({ L with D:=(L.puts k m L.D).1 }:Lg).rw=(Rw.puts k m L.rw).1/\(L.puts k m L.D).2=(Rw.puts k m L.rw).2/\((L.puts k m L.D).2=0->(L.puts k m L.D).1.down=false)
 | 0,m,L,h,hd=>⟨rfl,rfl,λ_=>hd⟩
 | k+1,m,L,h,hd=>by
   obtain⟨b,d⟩:=NX1 h hd m;rw[Lg.puts,Rw.puts,<- d];by_cases a:L.Qk L.D m=0
   ·rw [AC a,AC a];obtain⟨e,f⟩:=FL1 L h.disk m;have c:=FC1 k (m+1) { L with D:=L.Vg L.D m } (h.same e f) (FV1 hd m a);rw[xI,b]at c;exact c
   ·rw [AO a,AO a];exact⟨b,rfl,λg=>absurd g a⟩
def DZ1{L:Lg}(h:L.ok):(L.Gs L.D).1.rw=L.rw.Gs.1/\(L.Gs L.D).2=L.rw.Gs.2:=by
 have o:L.rw.Gs=if(upTo (Et L.rw L.rw.np) 3).2=0 then({ Vm L.rw L.rw.np (upTo (Et L.rw L.rw.np) 3).1 with nf:=0,np:=(Vm L.rw L.rw.np (upTo (Et L.rw L.rw.np) 3).1).kp,f1:=λ_=>0,kf:=0,f2:=λ_=>0 },0)else(Vm L.rw L.rw.np (upTo (Et L.rw L.rw.np) 3).1,(upTo (Et L.rw L.rw.np) 3).2):=rfl
 have c0:Et L.rw L.rw.np 0=L.D.IM 0 (1024*L.pages:Nat):=by rw[JA];rfl
 have k:Et L.rw L.rw.np 1=(L.D.Fp 0 (1024*L.pages:Nat)).Dw:=by
  rw[JA];exact Yg (f:=0) (by omega)
 have i:({ L.rw with D:=(L.rw.D.Fp 0 (L.rw.np*1024:Nat)).sync 0 }:Rw)=({ L with D:=(L.D.Fp 0 (1024*L.pages:Nat)).sync 0 }:Lg).rw:=by rw[JA];rfl
 rw[o];by_cases b:L.D.IM 0 (1024*L.pages:Nat)≠0
 ·have u:upTo (Et L.rw L.rw.np) 3=(1,L.D.IM 0 (1024*L.pages:Nat)):=by rw [UW,c0,AC b]
  have l1:L.Gs L.D=({ L with D:=L.D.Fp 0 (1024*L.pages:Nat) },L.D.IM 0 (1024*L.pages:Nat)):=AC b;rw[u,l1];dsimp only;rw[AO b];refine⟨?_,rfl⟩
  show _=({ L.rw with D:=L.rw.D.Fp 0 (L.rw.np*1024:Nat) }:Rw)
  rw[JA 1024 L.pages];rfl
 ·by_cases e:(L.D.Fp 0 (1024*L.pages:Nat)).stops
  ·have j:(L.D.Fp 0 (1024*L.pages:Nat)).Dw=2:=AC e
   have u:upTo (Et L.rw L.rw.np) 3=(2,2):=by rw[UW,c0,k,AO b,j,AC (by decide)]
   have l1:L.Gs L.D=({ L with D:=(L.D.Fp 0 (1024*L.pages:Nat)).sync 0 },2):=(AO b).trans (AC e);rw[u,l1];dsimp only;rw[AO (by decide)];refine⟨?_,rfl⟩
   show _=({ L.rw with D:=(L.rw.D.Fp 0 (L.rw.np*1024:Nat)).sync 0 }:Rw)
   rw[i]
  ·have j:(L.D.Fp 0 (1024*L.pages:Nat)).Dw=0:=(Fj _).2 e;have m:(L.D.Fp 0 (1024*L.pages:Nat)).ok:=Dk.Y5 h.disk _ _;have cs:((L.D.Fp 0 (1024*L.pages:Nat)).sync 0).seen 1=L.D.seen 1:=(Ua _ 0 (by omega) 1 (by omega)).trans (pR L.D 0 (1024*L.pages) 1 (by omega));have l:({ L with D:=(L.D.Fp 0 (1024*L.pages:Nat)).sync 0 }:Lg).ok:=h.same (Dk.Qs m 0) cs
   have p:Et L.rw L.rw.np 2=({ L with D:=(L.D.Fp 0 (1024*L.pages:Nat)).sync 0 }:Lg).rw.Eb 0 L.pages:=by
    show({ L.rw with D:=(L.rw.D.Fp 0 (L.rw.np*1024:Nat)).sync 0 }:Rw).Eb 0 L.rw.np=_;rw[i];rfl
   have q:Vm L.rw L.rw.np 3=({ L with D:=(L.D.Fp 0 (1024*L.pages:Nat)).sync 0 }:Lg).rw.tell 0 L.pages:=by
    show({ L.rw with D:=(L.rw.D.Fp 0 (L.rw.np*1024:Nat)).sync 0 }:Rw).tell 0 L.rw.np=_;rw[i];rfl
   have u:upTo (Et L.rw L.rw.np) 3=(3,Et L.rw L.rw.np 2):=by rw[UW,c0,k,AO b,j,AO (λr=>r rfl)]
   have l1:L.Gs L.D=(if({ L with D:=(L.D.Fp 0 (1024*L.pages:Nat)).sync 0 }:Lg).Eb 0 L.pages=0 then({ ({ L with D:=(L.D.Fp 0 (1024*L.pages:Nat)).sync 0 }:Lg).tell 0 L.pages with fs:=[] },0)else(({ L with D:=(L.D.Fp 0 (1024*L.pages:Nat)).sync 0 }:Lg).tell 0 L.pages,({ L with D:=(L.D.Fp 0 (1024*L.pages:Nat)).sync 0 }:Lg).Eb 0 L.pages)):=(AO b).trans (AO e);have n:L.pages=({ L with D:=(L.D.Fp 0 (1024*L.pages:Nat)).sync 0 }:Lg).pages:=rfl;rw[u,l1];generalize ({ L with D:=(L.D.Fp 0 (1024*L.pages:Nat)).sync 0 }:Lg)=M at *;dsimp only;rw[p,q,n];have a:=DU1 l 0 M.pages;have s:=rF l 0 M.pages;rw[<- s];by_cases c:M.Eb 0 M.pages=0
   ·rw [AC c] at a;rw[AC c,AC c];obtain⟨_,_,g,_⟩:=jI M.rw 0 M.pages
    have d:(M.tell 0 M.pages).kept=0/\(M.tell 0 M.pages).pages=M.pages/\(M.tell 0 M.pages).D=(M.rw.tell 0 M.pages).D/\(M.tell 0 M.pages).slot=(M.rw.tell 0 M.pages).slot/\(M.tell 0 M.pages).number=(M.rw.tell 0 M.pages).number :=
     ⟨D8 Rw.kf a,D8 Rw.kp a,D8 Rw.D a,D8 Rw.slot a,D8 Rw.number a⟩
    refine⟨?_,rfl⟩;exact ZT d.2.2.1 rfl (d.2.1.trans g.symm) (λx=>rfl) d.1 (d.2.1.trans g.symm) (λx=>by show Aw (List.take _ []) x=0;rw[List.take_nil];rfl) d.2.2.2.1 d.2.2.2.2
   ·rw [AO c] at a;rw[AO c,AO c];exact⟨a,rfl⟩
def MA0{L:Lg}(h:L.ok)(k:L.D.down=false):L.Ah.1.rw=L.rw.Ah.1/\L.Ah.2=L.rw.Ah.2:=by
 obtain⟨j,g,n⟩:=FC1 L.pages 0 L h k;obtain⟨l,m⟩:=ZK L L.pages 0 L.D h.disk;by_cases a:L.fs.length≠L.kept
 ·have b:L.Ah=(L,11):=AC a;have c:L.rw.Ah=(L.rw,11):=AC (show L.rw.nf≠L.rw.kf from a);rw[b,c];exact⟨rfl,rfl⟩
 ·have i:L.fs.length=L.kept:=FC a;have m1:¬(L.rw.nf≠L.rw.kf):=a;by_cases d:L.kept=0
  ·have b:L.Ah=(L,0):=(AO a).trans (AC d);have c:L.rw.Ah=(L.rw,0):=(AO m1).trans (AC (show L.rw.nf=0 from i.trans d));rw[b,c];exact⟨rfl,rfl⟩
  ·have m2:¬ (L.rw.nf=0):=λe=>d (i.symm.trans e);have np:L.rw.np=L.pages:=rfl;by_cases f:(L.puts L.pages 0 L.D).2≠0
   ·have b:L.Ah=({ L with D:=(L.puts L.pages 0 L.D).1 },(L.puts L.pages 0 L.D).2):=(AO a).trans ((AO d).trans (AC f));have c:L.rw.Ah=Rw.puts L.rw.np 0 L.rw:=(AO m1).trans ((AO m2).trans (AC (by rw[np,<- g];exact f)));rw[b,c];exact⟨j,g⟩
   ·have b:L.Ah=L.Gs (L.puts L.pages 0 L.D).1:=(AO a).trans ((AO d).trans (AO f));have c:L.rw.Ah=(Rw.puts L.rw.np 0 L.rw).1.Gs:=(AO m1).trans ((AO m2).trans (AO (by rw[np,<- g];exact f)));rw[b,c,np,<- j];exact DZ1 (h.same l m)
def Nl (keep:List Int):∀ (ws:List Ch) (i f:Nat) (l:List UInt8),(∀ c∈ws,c.file≠f)->Gm keep ws i f l=l
 | [],i,f,l,_=>rfl
 | c :: ws,i,f,l,h=>by
   rw[Gm,show Ko c (PI keep i) l f=l from AO (h c (AZ ..))];exact Nl keep ws (i+1) f l λd a=>h d (BF _ a)
def iD{l:List UInt8}{a N f p:Nat}(d:l.take 16=Jb)(j:a<2)(k:1<=N/\N<=3)(i:Az l a=(N,f,p))(e:(Az l (1-a)).1=0\/(Az l (1-a)).1 % 3+1=N):Cj l=a:=by
 have g:(Az l (1-a)).1≠0->(Az l (1-a)).1<=3:=λh=>(Zk h).1
 have c:(Az l a).1=N:=by rw[i]
 unfold Cj
 obtain rfl | rfl:a=0\/a=1:=by omega
 ·rw [show 1-0=1 from rfl] at e g;rw[c,AO (λh=>h.elim (λb=>b d) (λb=>by omega)),AO (λh=>by omega)]
 ·rw [show 1-1=0 from rfl] at e g;rw[c,AO (λh=>h.elim (λb=>b d) (λb=>by omega)),AC (by omega)]
def EH1:∀ (k n:Nat),n<256 ^ k->DC (BJ n k)=n
 | 0,n,h=>by have:n=0:=by simpa using h
             subst this;rfl
 | k+1,n,h=>by
   rw[BJ,iL,EH1 k (n / 256) (by rw[Nat.pow_succ]at h;omega),MR];omega
def aB{n:Nat}(h:n<4294967296):DC (BJ n 4)=n:=EH1 4 n (by omega)
def kD{n:Nat}(r:List UInt8)(a:n<4294967296):DC ((BJ n 4++r).take 4)=n:=by
 rw[TC (by rw[Bj];omega),EE (by rw[Bj];omega)];exact aB a
def We{l:List UInt8}{k n f p:Nat}(m:40+24*k<=l.length)(c:Bc l (16+24*k) 24=slotL n f p)(a:1<=n/\n<=3)(d:f<4294967296)(e:p<4294967296)(b:f=0\/64+1028*f<=l.length):Az l k=(n,f,p):=by
 have g:DC ((slotL n f p).take 4)=n:=by
  unfold slotL;rw[BU,BU,BU];exact kD _ (by omega)
 have h:DC (Bc (slotL n f p) 4 4)=f:=by
  unfold Bc slotL;rw[BU,BU,BU,VP (by rw[Bj];omega),IY (by rw[Bj];omega),JU];exact kD _ d
 have i:DC (Bc (slotL n f p) 8 4)=p:=by
  have j:slotL n f p=(BJ n 4++BJ f 4)++(BJ p 4++(BJ n 4++BJ f 4++BJ p 4)):=by unfold slotL;simp[BU]
  have o:(BJ n 4++BJ f 4).length=8:=by simp[Bj]
  unfold Bc;rw[j,VP (by omega),IY (by omega),JU];exact kD _ e
 rw[zH (by omega) c g h i,AC ⟨rfl,a.1,a.2,b⟩]
def zt(l:List UInt8)(B:Nat):List UInt8:=(Ef l B).take B
def Vu(l:List UInt8)(n i:Nat):(Ef l n)[i]? = if i<l.length then l[i]? else if i<n then some 0 else none:=by
 unfold Ef;rw[List.getElem?_append]
 split
 ·rfl
 ·rename_i h;rw[List.getElem?_replicate];by_cases a:i<n
  ·rw[AC a,AC (by omega)]
  ·rw[AO a,AO (by omega)]
def QQ(l:List UInt8)(B i:Nat):(zt l B)[i]? = if i<B then(if i<l.length then l[i]? else some 0)else none:=by
 unfold zt;rw[GZ]
 split
 ·rw [Vu]
  split
  ·rfl
  ·first
    | rfl
    |(rename_i a b;rw[AC a])
 ·rfl
def xK{l t:List UInt8}{a B:Nat}(d:B<=a):zt (GR l a t) B=zt l B:=by
 refine JC λi=>?_;rw[QQ,QQ]
 split
 ·rename_i e;have f:=Lh l a t;by_cases c:i<(GR l a t).length
  ·rw [AC c,Xw,AO (by omega),Vu];by_cases b:i<l.length
   ·rw[AC b,AC b]
   ·rw[AO b,AO b,AC (by omega)]
  ·rw[AO c,AO (by omega)]
 ·rfl
def EG1{c:Ch}{how:Int}{f:Nat}{l:List UInt8}{B:Nat}(e:c.file=f->c.cut=false/\B<=c.at_):zt (Ko c how l f) B=zt l B/\l.length<=(Ko c how l f).length:=by
 unfold Ko
 split
 ·rename_i g;obtain⟨a,b⟩:=e g
  have d:∀ t:List UInt8,l.length<=(GR l c.at_ t).length:=λt=>by rw[Lh];omega
  split
  ·unfold Ch.done;rw[AO (by rw[a];decide)];exact⟨xK b,d _⟩
  ·split
   ·unfold Ch.half;rw[AO (by rw[a];decide)];unfold Ch.done;rw[AO (by show ¬ c.cut=true;rw[a];decide)];exact⟨xK b,d _⟩
   ·exact⟨rfl,AY _⟩
 ·exact⟨rfl,AY _⟩
def Wx (keep:List Int):∀ (ws:List Ch) (i f:Nat) (l:List UInt8) (B:Nat),(∀ c∈ws,c.file=f->c.cut=false/\B<=c.at_)->zt (Gm keep ws i f l) B=zt l B/\l.length<=(Gm keep ws i f l).length
 | [],i,f,l,B,_=>⟨rfl,AY _⟩
 | c :: ws,i,f,l,B,h=>by
   obtain⟨a,b⟩:=EG1 (how:=PI keep i) (l:=l) (h c (AZ ..));obtain⟨e,g⟩:=Wx keep ws (i+1) f (Ko c (PI keep i) l f) B (λd j=>h d (BF _ j));exact⟨e.trans a,BN b g⟩
def Ye{l:List UInt8}{B a n:Nat}(b:a+n<=B)(c:a+n<=l.length):Bc (zt l B) a n=Bc l a n:=by
 refine JC λi=>?_;rw[Ee,Ee]
 split
 ·rw[QQ,AC (by omega),AC (by omega)]
 ·rfl
def Pi(t:List UInt8)(N:Nat):Prop:=DC ((t.drop 12).take 4)=0\/(DC ((t.drop 12).take 4)<=3/\DC ((t.drop 12).take 4) % 3+1=N)
def HY1(N:Nat):Pi (List.replicate 24 0) N:=.inl (by decide)
def AB1(n f p:Nat):(slotL n f p).drop 12=BJ n 4++BJ f 4++BJ p 4:=by
 unfold slotL;rw[VP (by simp[Bj]),IY (by simp[Bj]),JU]
def wE{n f p N:Nat}(n2:n<=3)(a:n % 3+1=N):Pi (slotL n f p) N:=by
 have e:DC (((slotL n f p).drop 12).take 4)=n:=by
  rw[AB1,BU,TC (by rw[Bj];omega),EE (by rw[Bj];omega),aB (by omega)]
 exact .inr (by rw[e];exact⟨n2,a⟩)
def NB0(n f p:Nat):(slotL n f p).take 4=BJ n 4:=by
 unfold slotL;rw[BU,BU,BU,TC (by rw[Bj];omega),EE (by rw[Bj];omega)]
def pW{l:List UInt8}{k N:Nat}(h:Pi (zt l (40+24*k) |>.drop (16+24*k)) N):(Az l k).1=0\/(Az l k).1 % 3+1=N:=by
 by_cases a:(Az l k).1=0
 ·exact .inl a
 ·have e:¬ l.length<40+24*k:=λb=>a (by rw [yM b])
  have f:Bc l (16+24*k) 24=(zt l (40+24*k)).drop (16+24*k):=by
   rw[<- Ye (B:=40+24*k) (by omega) (by omega)];unfold Bc;rw[EE];rw[DJ];unfold zt;rw[CU];omega
  rw[<- f]at h
  have c:(Az l k).1=DC (((Bc l (16+24*k) 24).drop 12).take 4):=by
   unfold Az at a ⊢;rw[AO e]at a ⊢;dsimp only at a ⊢
   split
   ·rename_i b;rw[AC b]at a;exact absurd rfl a
   ·rename_i b;have d:(Bc l (16+24*k) 24).take 12=(Bc l (16+24*k) 24).drop 12:=FC λg=>b (.inl g);show DC ((Bc l (16+24*k) 24).take 4)=_;rw[<- d,MF];rfl
  rcases h with h |⟨n2,i⟩
  ·rw [c,h] at a;exact absurd rfl a
  ·right;rw[c];exact i
structure Safe (L:Lg):Prop where
 ok:L.ok
 mark:L.D.l1.take 16=Jb
 num:1<=L.number/\L.number<=3
 slot:Bc L.D.l1 (16+24*L.slot) 24=slotL L.number L.kept L.pages
 old:Pi ((zt L.D.l1 (40+24*(1-L.slot))).drop (16+24*(1-L.slot))) L.number
 top:L.kept=0\/64+1028*L.kept<=L.D.l1.length
 lies:∀ i f,i<L.kept->L.fs[i]? = some f->Bc L.D.l1 (64+1028*i) 1028=f.bytes
 waits1:∀ c∈L.D.waits,c.file=1->c.cut=false/\64+1028*L.kept<=c.at_
 waits0:∀ c∈L.D.waits,c.file≠0
def vC{l c:List UInt8}{B b:Nat}(h:zt c B=zt l B)(f:b<=B):zt c b=zt l b:=by
 refine JC λi=>?_
 have d:(zt c B)[i]? = (zt l B)[i]? := by rw[h]
 rw[QQ,QQ]at d;rw[QQ,QQ];by_cases a:i<b
 ·have e:i<B:=by omega
  rw[AC e,AC e]at d;rw[AC a,AC a];exact d
 ·rw[AO a,AO a]
def Qi{l b:List UInt8}{B a n:Nat}(h:zt b B=zt l B)(e:l.length<=b.length)(d:a+n<=B)(c:a+n<=l.length):Bc b a n=Bc l a n:=by
 rw[<- Ye d (BN c e),h,Ye d c]
def Vf{l:List UInt8}{i:Nat}{f:Fr}(h:Bc l (64+1028*i) 1028=f.bytes)(a:f.n<4294967296)(b:f.text.size=1024):Oy l i=f:=by
 obtain⟨n,t⟩:=f;have e:t.size=1024:=b;unfold Oy
 have c:Bc l (64+1028*i) 4=BJ n 4:=by
  have:=lC l (64+1028*i) 1028 0 4 (by omega);rw[VI,h]at this;rw[<- this];unfold Bc Fr.bytes;rw[GV,TC (by rw[Bj];omega),EE (by rw[Bj];omega)]
 have d:Bc l (64+1028*i+4) 1024=t.data.toList:=by
  rw[<- lC l (64+1028*i) 1028 4 1024 (by omega),h];unfold Bc Fr.bytes;rw[VP (by rw[Bj];omega),IY (by rw[Bj];omega),JU,EE (by rw[JX];show t.size<=_;omega)]
 rw[c,d,aB a,WS]
def Qw {L:Lg} (h:Safe L) (keep:List Int) :
 (L.D.Ey keep).l0=L.D.l0/\Cj (L.D.Ey keep).l1=L.slot/\Az (L.D.Ey keep).l1 L.slot=(L.number,L.kept,L.pages)/\Eh (L.D.Ey keep).l1 L.kept=L.fs.take L.kept:=by
 obtain⟨z,e⟩:=Wx keep L.D.waits 0 1 L.D.l1 (64+1028*L.kept) h.waits1;have u:(L.D.Ey keep).l0=L.D.l0:=Nl keep L.D.waits 0 0 L.D.l0 h.waits0;have v:(L.D.Ey keep).l1=Gm keep L.D.waits 0 1 L.D.l1:=rfl;rw[v];generalize Gm keep L.D.waits 0 1 L.D.l1=b at *;have r:=h.ok.slot;have y:=h.ok.len;have A:=h.ok.kept;have B:=He h.slot (Eo _ _ _) (by omega)
 have C:16<=L.D.l1.length:=by omega
 have w:b.take 16=Jb:=by
  have:=Qi (a:=0) (n:=16) z e (by omega) (by omega);rw[Gn,Gn]at this;rw[this];exact h.mark
 have g:Az b L.slot=(L.number,L.kept,L.pages) :=
  We (by omega) ((Qi z e (by omega) (by omega)).trans h.slot) h.num (by omega) h.ok.pages (by
   rcases h.top with j | j
   ·exact .inl j
   ·exact .inr (by omega))
 have x:=pW (l:=b) (k:=1-L.slot) (N:=L.number) (by rw[vC z (by omega)];exact h.old);refine⟨u,iD w r h.num g x,g, ?_⟩;refine JC λi=>?_;rw[GZ];by_cases c:i<L.kept
 ·have f:i<L.fs.length:=by omega
  have m:=DK f;have o:=h.lies i _ c m;have d:=h.ok.frames _ (EI f);have q:=He o (Fr.Hz _ d.2) (by omega);have hb2:=(Qi z e (by omega) q).trans o;have s:=Vf hb2 d.1 d.2;rw[AC c,m]
  have t:i<(Eh b L.kept).length:=by rw[Hl];exact c
  have p:=DK t;rw[p];rw[(Ku _ _ _ _ p).2,s]
 ·rw[AO c,MH (by rw[Hl];omega)]
def Xp(D:Dk):D.turn.l0=D.l0/\D.turn.l1=D.l1/\D.turn.waits=D.waits:=by
 unfold Dk.turn;split <;> exact⟨rfl,rfl,rfl⟩
def Ip(D:Dk)(c:Ch):(D.change c).l0=D.l0/\(D.change c).l1=D.l1/\((D.change c).waits=D.waits\/(D.change c).waits=D.waits++[c]):=by
 obtain⟨a,b,d⟩:=Xp D;unfold Dk.change
 split
 ·exact⟨a,b,.inl d⟩
 ·exact⟨a,b,.inr rfl⟩
def TJ0{L:Lg}(h:Safe L)(n:Int)(t:ByteArray):Safe (L.append n t):=by
 have l:=Na h.ok n t;by_cases m:L.RX n t/\L.at_+1028<=67108864
 ·have e:L.append n t={ L with D:=L.D.write 1 L.at_ (bsOf (Fr.bytes ⟨n.toNat,t⟩)),fs:=if L.D.stops then L.fs else L.fs++[⟨n.toNat,t⟩] }:=AC m;rw[e]at l ⊢
  have q:(L.D.write 1 L.at_ (bsOf (Fr.bytes ⟨n.toNat,t⟩))).l0=L.D.l0/\(L.D.write 1 L.at_ (bsOf (Fr.bytes ⟨n.toNat,t⟩))).l1=L.D.l1/\∀ c∈(L.D.write 1 L.at_ (bsOf (Fr.bytes ⟨n.toNat,t⟩))).waits,c∈L.D.waits\/(c.file=1/\c.cut=false/\c.at_=L.at_):=by
   unfold Dk.write
   split
   ·obtain ⟨k,b,d⟩:=Ip L.D ⟨(1:Int).toNat,(L.at_:Int).toNat,bsOf (Fr.bytes ⟨n.toNat,t⟩),false⟩;refine⟨k,b,λc a=>?_⟩
    rcases d with d | d
    ·rw[d]at a;exact .inl a
    ·rw [d] at a
     rcases BO.1 a with a | a
     ·exact .inl a
     ·rw[BH.1 a];exact .inr ⟨rfl,rfl,IR _⟩
   ·exact⟨rfl,rfl,λc a=>.inl a⟩
  have u:=h.ok.kept;have v:L.at_=64+1028*L.fs.length:=rfl;obtain⟨x,j,o⟩:=q;generalize L.D.write 1 L.at_ (bsOf (Fr.bytes ⟨n.toNat,t⟩))=X at *;refine⟨l, ?_,h.num, ?_, ?_, ?_,λi f p g=>?_,λc a k=>?_,λc a r=>?_⟩
  ·show X.l1.take 16=_;rw[j];exact h.mark
  ·show Bc X.l1 _ _=_;rw[j];exact h.slot
  ·show Pi ((zt X.l1 _).drop _) _;rw[j];exact h.old
  ·show _\/_<=X.l1.length;rw[j];exact h.top
  ·show Bc X.l1 _ _=_;rw[j];refine h.lies i f p ?_;have w:i<L.kept:=p;dsimp only at g
   split at g
   ·exact g
   ·rw[G9 (by omega)]at g;exact g
  ·rcases o c a with b | ⟨b,d,s⟩
   ·exact h.waits1 c b k
   ·exact⟨d,by show 64+1028*L.kept<=_;rw[s];omega⟩
  ·rcases o c a with b | ⟨b,_,_⟩
   ·exact h.waits0 c b r
   ·omega
 ·have e:L.append n t=L:=AO m;rw[e];exact h
def Zv{L:Lg}(h:Safe L):Safe L.back:=by
 have c:=FE1 h.ok;refine⟨c,h.mark,h.num,h.slot,h.old,h.top,λi f b e=>h.lies i f b ?_,h.waits1,h.waits0⟩;have a:(L.fs.take L.kept)[i]? = some f:=e;have d:i<L.kept:=b;rw[GZ,AC d]at a;exact a
def Nu:∀ (ws:List Ch) (i f:Nat) (l:List UInt8),Gm [1] ws i f l=Rt ws f l
 | [],i,f,l=>rfl
 | c :: ws,i,f,l=>by
   have a:PI [1] i=1:=by unfold PI;rw[AO (by decide),JB,Nat.mod_one];rfl
   rw[Gm,Rt,a,Nu ws (i+1) f]
   congr 1
def rZ {L:Lg} (h:Safe L) {b:List UInt8} (z:zt b (64+1028*L.kept)=zt L.D.l1 (64+1028*L.kept)) (c:L.D.l1.length<=b.length) :
 b.take 16=Jb/\Bc b (16+24*L.slot) 24=slotL L.number L.kept L.pages/\Pi ((zt b (40+24*(1-L.slot))).drop (16+24*(1-L.slot))) L.number/\(L.kept=0\/64+1028*L.kept<=b.length)/\(∀(i:Nat) (f:Fr),i<L.kept->L.fs[i]? = some f->Bc b (64+1028*i) 1028=f.bytes):=by
 have l:=h.ok.slot;have m:=h.ok.kept;have o:=He h.slot (Eo _ _ _) (by omega);refine⟨?_,(Qi z c (by omega) (by omega)).trans h.slot,by rw[vC z (by omega)];exact h.old,h.top.imp id (λp=>by omega),λi f k d=>?_⟩
 ·have:=Qi (a:=0) (n:=16) z c (by omega) (by omega);rw[Gn,Gn]at this;rw[this];exact h.mark
 ·have j:=h.ok.frames f (F5 d);have e:=h.lies i f k d;have g:=He e (Fr.Hz _ j.2) (by omega);exact(Qi z c (by omega) g).trans e
structure Ij (L:Lg):Prop where
 safe:Safe L
 waits:L.D.waits=[]
def yU{L:Lg}(h:Safe L)(b:¬ L.D.stops):(L.D.sync 1).l0=L.D.l0/\(L.D.sync 1).l1=L.D.seen 1/\(L.D.sync 1).waits=[]:=by
 have e:L.D.sync 1=L.D.Tc 1:=by
  unfold Dk.sync;rw[AC (by decide),AO b];rfl
 rw[e];refine⟨rfl,rfl, ?_⟩
 show L.D.waits.filter (λc=>decide (c.file≠1))=[]
 rw[VO];intro c a;have d:=h.waits0 c a;have f:=(h.ok.disk.waits c a).1
 have:c.file=1:=by omega
 simp[this]
def GH1{L:Lg}(h:Safe L)(l:¬ L.D.stops):Ij ({ L with D:=L.D.sync 1 }:Lg):=by
 obtain⟨n,m,b⟩:=yU h l;have k:({ L with D:=L.D.sync 1 }:Lg).ok:=h.ok.same (Dk.Qs h.ok.disk 1) (Ua L.D 1 (by omega) 1 (by omega));obtain⟨z,d⟩:=Wx [1] L.D.waits 0 1 L.D.l1 (64+1028*L.kept) h.waits1;rw[Nu]at z d;have j:Rt L.D.waits 1 L.D.l1=L.D.seen 1:=rfl;rw[j]at z d;obtain⟨f1,f2,f,g,i⟩:=rZ h z d;generalize L.D.sync 1=X at *;rw[<- m]at f1 f2 f g i;refine⟨⟨k,f1,h.num,f2,f,g,i,λc e=>?_,λc e=>?_⟩,b⟩
 ·have a:c∈X.waits:=e
  rw[b]at a;cases a
 ·have a:c∈X.waits:=e
  rw[b]at a;cases a
def Ju{L:Lg}(h:Ij L){i:Nat}{f:Fr}(b:L.fs[i]? = some f):Bc L.D.l1 (64+1028*i) 1028=f.bytes:=by
 have a:=h.safe.ok.lies i f b
 have e:L.D.seen 1=L.D.l1:=by
  unfold Dk.seen;rw[h.waits];rfl
 rw[e]at a;exact a
def Ry(L:Lg)(f p:Nat):List UInt8:=GR L.D.l1 (16+24*(1-L.slot)) (slotL (L.number % 3+1) f p)
def sF {L:Lg} (h:Ij L) (e:64<=L.D.l1.length) (f p:Nat) :
 (Ry L f p).length=L.D.l1.length/\(Ry L f p).take 16=Jb/\Bc (Ry L f p) (16+24*(1-L.slot)) 24=slotL (L.number % 3+1) f p /\
 Bc (Ry L f p) (16+24*L.slot) 24=slotL L.number L.kept L.pages/\∀ a n,64<=a->a+n<=L.D.l1.length->Bc (Ry L f p) a n=Bc L.D.l1 a n:=by
 have g:=h.safe.ok.slot;have c:=Eo (L.number % 3+1) f p;unfold Ry;refine⟨by rw[Lh,c];omega, ?_, ?_, ?_,λa n i d=>Iz d (.inr (by rw[c];omega))⟩
 ·have:=Iz (l:=L.D.l1) (a:=16+24*(1-L.slot)) (t:=slotL (L.number % 3+1) f p) (b:=0) (n:=16) (by omega) (.inl (by omega));rw[Gn,Gn]at this;rw[this];exact h.safe.mark
 ·have:=Oe L.D.l1 (16+24*(1-L.slot)) (slotL (L.number % 3+1) f p);rw[c]at this;exact this
 ·rw [Iz (by omega) (by rw [c];omega)];exact h.safe.slot
def UT0{L:Lg}(h:Ij L)(k:Nat):L.D.seen k=L.D.lasts k:=by
 unfold Dk.seen;rw[h.waits];rfl
def xU {L:Lg} (h:Ij L) (f p:Nat) (b:¬ L.D.stops) (g:¬ (L.Cf f p).stops) :
 ((L.Cf f p).sync 1).l0=L.D.l0/\((L.Cf f p).sync 1).l1=Ry L f p/\((L.Cf f p).sync 1).waits=[]:=by
 have l:=h.safe.ok.slot
 have a:(1<2/\16+24*(1-L.slot)+(bsOf (slotL (L.number % 3+1) f p)).size<=67108864):=⟨by omega,by rw[Df,Eo];omega⟩
 have d:L.Cf f p=L.D.change ⟨(1:Int).toNat,((16+24*(1-L.slot):Nat):Int).toNat,bsOf (slotL (L.number % 3+1) f p),false⟩:=AC (Oq.2 a)
 have i:(L.Cf f p).waits=[⟨(1:Int).toNat,((16+24*(1-L.slot):Nat):Int).toNat,bsOf (slotL (L.number % 3+1) f p),false⟩]:=by
  rw[d];unfold Dk.change;rw[AO b];show L.D.waits++[_]=_;rw[h.waits];rfl
 have j:(L.Cf f p).l0=L.D.l0:=by rw[d];exact(Ip _ _).1
 have k:(L.Cf f p).seen 1=Ry L f p:=by
  have:=Xm L.D 1 (16+24*(1-L.slot)) (bsOf (slotL (L.number % 3+1) f p)) 1;rw[AC ⟨a,b,rfl⟩,Gf,UT0 h]at this;exact this
 have e:(L.Cf f p).sync 1=(L.Cf f p).Tc 1:=by
  unfold Dk.sync;rw[AC (by decide),AO g];rfl
 rw[e];refine⟨j,k, ?_⟩
 show(L.Cf f p).waits.filter (λc=>decide (c.file≠1))=[]
 rw[i];rfl
def uY{L:Lg}(h:Ij L)(s:64<=L.D.l1.length){f p:Nat}(u:f<=L.fs.length)(v:p<4294967296)(o:¬ L.D.stops)(q:¬(L.Cf f p).stops):Ij (L.tell f p):=by
 obtain⟨w,x,y,z,A⟩:=sF h s f p;obtain⟨G,b,j⟩:=xU h f p o q;have l:=h.safe.ok.tell u v;have C:=h.safe.num;have H:=h.safe.ok.slot;have F:=h.safe.ok.len;have e:L.tell f p={ L with D:=(L.Cf f p).sync 1,slot:=1-L.slot,number:=L.number % 3+1,kept:=f,pages:=p }:=(AO o).trans (AO q);rw[e]at l ⊢;generalize (L.Cf f p).sync 1=X at *;have m:∀(i:Nat) (g:Fr),L.fs[i]? = some g->64+1028*i+1028<=L.D.l1.length:=λi g d=>He (Ju h d) (Fr.Hz _ (h.safe.ok.frames g (F5 d)).2) (by omega);refine⟨⟨l, ?_,⟨by show 1<=L.number % 3+1;omega,by show L.number % 3+1<=3;omega⟩, ?_, ?_, ?_,λi g I d=>?_,λc k=>?_,λc k=>?_⟩,j⟩
 ·show X.l1.take 16=_;rw[b];exact x
 ·show Bc X.l1 _ _=_;rw[b];exact y
 ·show Pi ((zt X.l1 (40+24*(1-(1-L.slot)))).drop (16+24*(1-(1-L.slot)))) (L.number % 3+1);rw[b,show 1-(1-L.slot)=L.slot by omega]
  have E:(zt (Ry L f p) (40+24*L.slot)).drop (16+24*L.slot)=Bc (Ry L f p) (16+24*L.slot) 24:=by
   rw[<- Ye (B:=40+24*L.slot) (by omega) (by omega)];unfold Bc;rw[EE];rw[DJ];unfold zt;rw[CU];omega
  rw[E,z];have J:=h.safe.ok.kept;exact wE C.2 rfl
 ·show f=0\/64+1028*f<=X.l1.length;rw[b,w]
  rcases S9 f with r | r
  ·exact .inl r
  ·have t:f-1<L.fs.length:=by omega
   have:=m (f-1) _ (DK t);exact .inr (by omega)
 ·show Bc X.l1 _ _=_;have n:L.fs[i]? = some g:=d;rw[b,A _ _ (by omega) (m i g n)];exact Ju h n
 ·have a:c∈X.waits:=k
  rw[j]at a;cases a
 ·have a:c∈X.waits:=k
  rw[j]at a;cases a
def fA{l:List UInt8}{k:Nat}(h:40+24*k<=l.length):(zt l (40+24*k)).drop (16+24*k)=Bc l (16+24*k) 24:=by
 rw[<- Ye (B:=40+24*k) (by omega) (by omega)];unfold Bc;rw[EE];rw[DJ];unfold zt;rw[CU];omega
def IQ1{t:List UInt8}{N:Nat}(a:1<=N/\N<=3)(h:Pi t N):DC (t.drop 12 |>.take 4)≠N % 3+1:=by
 rcases h with h |⟨n2,b⟩
 ·rw[h];omega
 ·omega
def Hw(L:Lg)(f p:Nat):List UInt8:=GR L.D.l1 (16+24*(1-L.slot)) ((slotL (L.number % 3+1) f p).take 12)
def CH1{L:Lg}(h:Ij L)(q:64<=L.D.l1.length)(f p:Nat):(Az (Hw L f p) (1-L.slot)).1=0:=by
 have r:=h.safe.ok.slot;have j:=h.safe.num
 have b:((slotL (L.number % 3+1) f p).take 12).length=12:=by rw[CU,Eo];omega
 have o:(Hw L f p).length=L.D.l1.length:=by unfold Hw;rw[Lh,b];omega
 have c:=h.safe.old;rw[fA (by omega)]at c;have k:=IQ1 j c;refine FC λa=>?_;unfold Az at a;rw[AO (by omega)]at a;dsimp only at a
 split at a
 ·exact a rfl
 ·rename_i g;have d:(Bc (Hw L f p) (16+24*(1-L.slot)) 24).take 12=(Bc (Hw L f p) (16+24*(1-L.slot)) 24).drop 12:=FC λl=>g (.inl l)
  have m:(Bc (Hw L f p) (16+24*(1-L.slot)) 24).take 12=(slotL (L.number % 3+1) f p).take 12:=by
   have:=Oe L.D.l1 (16+24*(1-L.slot)) ((slotL (L.number % 3+1) f p).take 12);rw[b]at this;refine Eq.trans ?_ this;unfold Hw Bc;rw[MF];rfl
  have n:(Bc (Hw L f p) (16+24*(1-L.slot)) 24).drop 12=(Bc L.D.l1 (16+24*(1-L.slot)) 24).drop 12:=by
   refine JC λi=>?_;rw[IX,IX,Ee,Ee]
   split
   ·unfold Hw;rw[Xw,AO (by rw[b];omega),Zn _ _ _ (by omega)]
   ·rfl
  rw[m,n]at d;have e:=D8 (λx:List UInt8=>DC (x.take 4)) d;rw[MF,show min 4 12=4 from rfl,NB0,aB (by omega)]at e;exact k e.symm
def BK1{L:Lg}(h:Ij L)(r:64<=L.D.l1.length)(f p:Nat):Cj (Hw L f p)=L.slot/\Az (Hw L f p) L.slot=(L.number,L.kept,L.pages)/\Eh (Hw L f p) L.kept=L.fs.take L.kept:=by
 have u:=h.safe.ok.slot;have x:=h.safe.ok.len;have z:=h.safe.ok.kept
 have j:((slotL (L.number % 3+1) f p).take 12).length=12:=by rw[CU,Eo];omega
 have y:(Hw L f p).length=L.D.l1.length:=by unfold Hw;rw[Lh,j];omega
 have c:∀ a n,a+n<=L.D.l1.length->(a+n<=16+24*(1-L.slot)\/28+24*(1-L.slot)<=a)->Bc (Hw L f p) a n=Bc L.D.l1 a n:=λa n v b=>by
  unfold Hw;exact Iz v (b.imp id (λB=>by rw[j];omega))
 have A:=He h.safe.slot (Eo _ _ _) (by omega)
 have w:(Hw L f p).take 16=Jb:=by
  have:=c 0 16 (by omega) (.inl (by omega));rw[Gn,Gn]at this;rw[this];exact h.safe.mark
 have k:Az (Hw L f p) L.slot=(L.number,L.kept,L.pages) :=
  We (by omega) ((c _ 24 (by omega) (by omega)).trans h.safe.slot) h.safe.num (by omega) h.safe.ok.pages (by
   rcases h.safe.top with b | b
   ·exact .inl b
   ·exact .inr (by omega))
 refine⟨iD w u h.safe.num k (.inl (CH1 h r f p)),k, ?_⟩;refine JC λi=>?_;rw[GZ];by_cases e:i<L.kept
 ·have g:i<L.fs.length:=by omega
  have l:=DK g;have m:=Ju h l;have d:=h.safe.ok.frames _ (EI g);have q:=He m (Fr.Hz _ d.2) (by omega);have s:=Vf ((c _ 1028 q (.inr (by omega))).trans m) d.1 d.2;rw[AC e,l]
  have t:i<(Eh (Hw L f p) L.kept).length:=by rw[Hl];exact e
  have o:=DK t;rw[o,(Ku _ _ _ _ o).2,s]
 ·rw[AO e,MH (by rw[Hl];omega)]
def ZH0{L:Lg}(h:Ij L)(o:64<=L.D.l1.length){f p:Nat}(A:f<=L.fs.length)(s:p<4294967296):Cj (Ry L f p)=1-L.slot/\Az (Ry L f p) (1-L.slot)=(L.number % 3+1,f,p)/\Eh (Ry L f p) f=L.fs.take f:=by
 obtain⟨B,t,u,v,w⟩:=sF h o f p;have x:=h.safe.num;have C:=h.safe.ok.slot;have z:=h.safe.ok.len;have E:=h.safe.ok.kept;have d:∀(i:Nat) (g:Fr),L.fs[i]? = some g->64+1028*i+1028<=L.D.l1.length:=λi g b=>He (Ju h b) (Fr.Hz _ (h.safe.ok.frames g (F5 b)).2) (by omega)
 have m:Az (Ry L f p) (1-L.slot)=(L.number % 3+1,f,p):=We (by omega) u (by omega) (by omega) s (by
  rcases S9 f with n | n
  ·exact .inl n
  ·have a:f-1<L.fs.length:=by omega
   have:=d (f-1) _ (DK a)
   exact .inr (by omega))
 have y:=pW (l:=Ry L f p) (k:=L.slot) (N:=L.number % 3+1) (by
  rw[fA (by omega),v]
  exact wE x.2 rfl)
 refine⟨iD t (by omega) (by omega) m (by rw[show 1-(1-L.slot)=L.slot by omega];exact y),m, ?_⟩;refine JC λi=>?_;rw[GZ];by_cases c:i<f
 ·have e:i<L.fs.length:=by omega
  have a:=DK e;have j:=h.safe.ok.frames _ (EI e);have q:=Vf ((w _ 1028 (by omega) (d i _ a)).trans (Ju h a)) j.1 j.2;rw[AC c,a]
  have r:i<(Eh (Ry L f p) f).length:=by rw[Hl];exact c
  have b:=DK r;rw[b,(Ku _ _ _ _ b).2,q]
 ·rw[AO c,MH (by rw[Hl];omega)]
def dR(l:List UInt8)(n:Nat):List UInt8:=Bc (zt l 6144) (1024*n) 1024
def KN1:ByteArray:=bsOf (List.replicate 1024 0)
def wM(l0:List UInt8)(fs:List Fr)(n:Nat)(o:Option ByteArray):Prop :=
 if Aw fs n≠0 then(fs[Aw fs n-1]?).map (·.text)=o
 else bsOf (dR l0 n)=o.getD KN1/\(o≠none->1024*n+1024<=l0.length)
def Holds(l0:List UInt8)(fs:List Fr)(K:Nat->Option ByteArray):Prop:=∀ n,n<6->wM l0 fs n (K n)
def PM1{l:List UInt8}{B:Nat}:(zt l B).length=B:=by
 unfold zt;rw[CU,Rk];omega
def Lc(L:Lg)(n:Nat):Prop:=Aw L.fs n≠0
def textOf(L:Lg)(m:Nat):ByteArray:=((L.fs[Aw L.fs m-1]?).map (·.text)).getD ⟨#[]⟩
def textOf_size{L:Lg}(h:L.ok){m:Nat}(b:Lc L m):(textOf L m).size=1024/\(L.fs[Aw L.fs m-1]?).map (·.text)=some (textOf L m):=by
 obtain⟨f,a,_⟩:=kN L.fs m b;unfold textOf;rw[a];exact⟨(h.frames f (F5 a)).2,rfl⟩
def jD{L:Lg}(D:Dk){m:Nat}(a:¬ Lc L m):L.Vg D m=D/\L.Qk D m=0:=⟨AO a,AO a⟩
def ZL0{D:Dk}(h:D.Dw≠0):D.stops/\D.turn.down=true:=by
 have a:D.stops:=FC λb=>h ((Fj D).2 b);refine⟨a, ?_⟩;unfold Dk.turn;rw[AC a]
def zQ{D:Dk}{c:Ch}(h:D.Dw≠0):(D.change c).down=true:=by
 obtain⟨a,b⟩:=ZL0 h;unfold Dk.change;rw[AC a];exact b
end Go.Proofs.YtjihboddejaelaaGreat
