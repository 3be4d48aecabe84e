/-
  Trees in plain Lean (5): one round of settling a path. No program in sight.
-/
import Derived.Test.YtjihboddejaelaaGreatTm1
import Derived.Test.YtjihboddejaelaaGreatTm13
import Derived.Test.YtjihboddejaelaaGreatTm10
import Derived.Test.YtjihboddejaelaaGreatTm9
import Derived.Test.YtjihboddejaelaaGreatTm4
import Derived.Outline
import Derived.Deep.RegionHeld3
import Derived.Deep.RegionLaw
import Derived.Deep.AppendLies
import Derived.Test.YtjihboddejaelaaGreatShelf
import Derived.Shelf.Spec.SlicesInsert
import Derived.Shelf.Spec.SlicesInsertGrow
set_option linter.unusedVariables false
set_option linter.unusedSimpArgs false
set_option linter.defProp false
set_option maxRecDepth 100000
set_option maxHeartbeats 100000000
namespace Go.Proofs.YtjihboddejaelaaGreat
open Go.RowKit
structure Pnd (G:Nat->Pg) (root:Nat) (Ds:List (List Nd)) (A:List Nd) (x:Nd) (B:List Nd) (ups:List CY):Prop where
 dn:BP G x.n root (A++x :: B) Ds
 abv:FI G x.n root A x B ups
 nd:(Fe (A++x :: B) Ds ups).Nodup
 le:Ak (body Ds.isEmpty x.its)<=1256
def FI.root {G:Nat->Pg} {f root:Nat}:∀ {ups:List CY} {A B:List Nd} {x:Nd},FI G f root A x B ups->ups≠[]->root∈Zq ups
 | [],_,_,_,_,h=>absurd rfl h
 | [u],A,B,x,k,_=>by
   obtain⟨b,c,a,d⟩:=k.2;refine BL _ ?_;rw[<- a];exact F6 (BC _ AZ)
 | u :: v :: r,A,B,x,k,_=>BC _ (FI.root (ups:=v :: r) k.2 (by simp))
def EN1{L L':List Nd}{Ds:List (List Nd)}{s t:List Nat}(h:(L'.map (·.n)++s).Perm (L.map (·.n)++t)):(Gl L' Ds++s).Perm (Gl L Ds++t):=by
 cases Ds with
 | nil=>exact h
 | cons D r =>
   show List.Perm ((L'.map (·.n)++Gl D r)++s) ((L.map (·.n)++Gl D r)++t);rw[BU,BU];refine(Ab3 _ VL).trans ?_;rw[<- BU];refine(List.Perm.append_right _ h).trans ?_;rw[BU];exact Ab3 _ VL
def apart{A B M:List Nd}{Ds:List (List Nd)}{u:CY}{r:List CY}(nd:(Fe (A++M++B) Ds (u :: r)).Nodup):(∀ x∈A++B,∀ z∈M,x.n≠z.n)/\(∀ D t,Ds=D :: t->∀ p∈Gl D t,∀ z∈M,p≠z.n)/\(∀ p∈Zq (u :: r),∀ z∈M,p≠z.n)/\(∀ p∈u.A.map (·.n)++u.B.map (·.n)++Zq r,p≠u.y.n):=by
 obtain⟨R,f,g⟩:=Np (A++M++B) Ds;unfold Fe at nd;rw[f]at nd
 have h:Zq (u :: r)=u.A.map (·.n)++u.y.n :: u.B.map (·.n)++Zq r:=by
  show u.lv.map (·.n)++Zq r=_;unfold CY.lv;rw[D9,DW]
 have n2:(Zq (u :: r)).Nodup:=(CZ.1 nd).2.1;rw[h]at n2;obtain⟨i,j,k⟩:=bI n2
 have key:∀ z∈M,∀ p,(p∈(A++B).map (·.n)\/p∈R\/p∈Zq (u :: r))->p≠z.n:=λz b p a=>by
  obtain⟨l,m,rfl⟩:=TI b
  have d:(((A++l).map (·.n))++z.n :: ((m++B).map (·.n))++(R++Zq (u :: r))).Nodup:=by
   simpa[D9,BU]using nd
  obtain⟨o,q,c⟩:=bI d;rintro rfl
  rcases a with a | a | a
  ·rw [D9] at a
   rcases BO.1 a with a | a
   ·exact o (by rw[D9];exact BL _ a)
   ·exact q (by rw[D9];exact BC _ a)
  ·exact c (BL _ a)
  ·exact c (BC _ a)
 refine⟨λx s z b=>key z b x.n (.inl (F6 s)),λD t v p a z b=>key z b p (.inr (.inl (by rw[g D t v];exact a))),λp a z b=>key z b p (.inr (.inr a)),λp a e=>?_⟩;subst e
 rcases BO.1 a with a | a
 ·exact(BO.1 a).elim i j
 ·exact k a
def gX{U V W e:List It}{d:Nat}(g:Ak e<=Ak W+d)(f:U=[]->body false (e++V)=body false e++V/\body false (W++V)=body false W++V/\Ak (body false e)<=Ak (body false W)+d):Ak (body false (U++e++V))<=Ak (body false (U++W++V))+d:=by
 cases U with
 | nil =>
   obtain⟨a,b,c⟩:=f rfl;rw[JU,JU,a,b,Ff,Ff];omega
 | cons i U =>
   show Ak (U++e++V)<=Ak (U++W++V)+d;simp only[Ff];omega
def Pnd.up {G G':Nat->Pg} {f root d:Nat} {A M M' B:List Nd} {Ds:List (List Nd)} {u:CY} {r:List CY} (h:BP G f root (A++M++B) Ds) (v:MO G f root A M B u) (k:FI G f root u.A u.y u.B r)
 (s:Seg G G' f u.y.n root A M M' B Ds) (K:M≠[]) (L:M'.head?.map (·.lo)=M.head?.map (·.lo)) (nd:(Fe (A++M++B) Ds (u :: r)).Nodup) (O:∃ z∈M,z.n=f) (add del:List Nat)
 (P:∀ p,p∉M.map (·.n)->p∉add->G' p=G p) (m:∀ p∈add,p∉Fe (A++M++B) Ds (u :: r)) (c:(M'.map (·.n)++del).Perm (M.map (·.n)++add)) (N:add.Nodup)
 (hd:Ak (body false (u.U++M'.map Dx++u.V))<=Ak (body false u.y.its)+d) (aa:d<=244) :
 Pnd G' root ((A++M'++B) :: Ds) u.A ⟨u.y.n,u.y.lo,u.U++M'.map Dx++u.V⟩ u.B r/\(Fe (u.A++(⟨u.y.n,u.y.lo,u.U++M'.map Dx++u.V⟩:Nd) :: u.B) ((A++M'++B) :: Ds) r++del).Perm (Fe (A++M++B) Ds (u :: r)++add):=by
 obtain⟨z,w,q⟩:=O;obtain⟨Q,R,C,a4⟩:=apart nd
 have j:∀ p∈Fe (A++M++B) Ds (u :: r),(∀ z∈M,p≠z.n)->p≠f/\G' p=G p:=λp c E=>⟨by rw[<- q];exact E z w,P p (λS=>by obtain⟨y,T,e⟩:=DI.1 S;exact E y T e.symm) λh=>m p h c⟩
 have H:∀ x∈A++B,x.n∈Fe (A++M++B) Ds (u :: r):=λx g=>BL _ (Cm (by rcases BO.1 g with g | g <;> simp[g]) Ds)
 have I:∀ D t,Ds=D :: t->∀ p∈Gl D t,p∈Fe (A++M++B) Ds (u :: r):=λD t i p c=>by subst i;exact BL _ (BC _ c)
 have J:∀ p∈Zq (u :: r),p∈Fe (A++M++B) Ds (u :: r):=λp c=>BC _ c
 have F:Zq (u :: r)=u.A.map (·.n)++u.y.n :: u.B.map (·.n)++Zq r:=by
  show u.lv.map (·.n)++Zq r=_;unfold CY.lv;rw[D9,DW]
 have o:∀ p∈u.A.map (·.n)++u.B.map (·.n)++Zq r,p∈Zq (u :: r):=λp c=>by
  rw[F];simp only[BO,BI]at c ⊢
  rcases c with(c | c) | c
  ·exact .inl (.inl c)
  ·exact .inl (.inr (.inr c))
  ·exact .inr c
 obtain⟨W,X⟩:=PP1 h v k s K L (λx g=>j _ (H x g) (Q x g)) (λD t i p c=>j p (I D t i p c) (R D t i p c)) (λp c=>j p (J p (o p c)) (C p (o p c)))
 have perm:(Fe (u.A++(⟨u.y.n,u.y.lo,u.U++M'.map Dx++u.V⟩:Nd) :: u.B) ((A++M'++B) :: Ds) r++del).Perm (Fe (A++M++B) Ds (u :: r)++add):=by
  unfold Fe
  have Y:Gl (u.A++(⟨u.y.n,u.y.lo,u.U++M'.map Dx++u.V⟩:Nd) :: u.B) ((A++M'++B) :: Ds)=u.lv.map (·.n)++Gl (A++M'++B) Ds:=by
   show(u.A++_ :: u.B).map (·.n)++_=_;unfold CY.lv;rw[D9,DW,D9,DW]
  rw[Y];show List.Perm (u.lv.map (·.n)++Gl (A++M'++B) Ds++Zq r++del) (Gl (A++M++B) Ds++(u.lv.map (·.n)++Zq r)++add)
  have Z:(Gl (A++M'++B) Ds++del).Perm (Gl (A++M++B) Ds++add):=by
   refine EN1 ?_;refine JW.2 λa=>?_;have l:=c.count_eq a;simp only[D9,JD]at l ⊢;omega
  refine JW.2 λa=>?_;have l:=Z.count_eq a;simp only[JD]at l ⊢;omega
 refine⟨⟨W,X, ?_, ?_⟩,perm⟩
 ·have n1:(Fe (A++M++B) Ds (u :: r)++add).Nodup:=CZ.2 ⟨nd,N,λa ha b hb e=>m b hb (e ▸ ha)⟩;exact(CZ.1 ((perm.nodup_iff).2 n1)).1
 ·show Ak (body false (u.U++M'.map Dx++u.V))<=1256;have h1:=(v.fit u.y (BC _ AZ) (λe=>C u.y.n (by rw[F];simp) z w (e.trans q.symm))).le;omega
def XC(x:Nd):CO (Dx x)=9+x.lo.length:=by unfold CO Dx;simp only[fourL_len];omega
section
variable {G G':Nat->Pg} {root:Nat} {A B:List Nd} {x:Nd} {Ds:List (List Nd)} {u:CY} {r:List CY}
def jC{k:Nat}(b:0<k){l:List It}:(l.take k).head? = l.head? := by
 cases l with
 | nil=>simp
 | cons a l=>cases k with
   | zero=>omega
   | succ k=>rfl
def Pnd.split (h:Pnd G root Ds A x B (u :: r)) (E:1012<Ak (body Ds.isEmpty x.its)) {m:Nat} (s:m∉Fe (A++x :: B) Ds (u :: r)) {X Y:List It} {y:It} (g:x.its.take (F8 Ds.isEmpty x.its)=X) (t:x.its.drop (F8 Ds.isEmpty x.its)=y :: Y)
 (j:G'=Ja (Ja G x.n (BM Ds.isEmpty (⟨m,y.k,y :: Y⟩ :: B) ⟨x.n,x.lo,X⟩)) m (BM Ds.isEmpty B ⟨m,y.k,y :: Y⟩)) :
 Pnd G' root ((A++[⟨x.n,x.lo,X⟩,⟨m,y.k,y :: Y⟩]++B) :: Ds) u.A ⟨u.y.n,u.y.lo,u.U++[⟨x.lo,Ba x.n⟩,⟨y.k,Ba m⟩]++u.V⟩ u.B r /\
 (Fe (u.A++(⟨u.y.n,u.y.lo,u.U++[⟨x.lo,Ba x.n⟩,⟨y.k,Ba m⟩]++u.V⟩:Nd) :: u.B) ((A++[⟨x.n,x.lo,X⟩,⟨m,y.k,y :: Y⟩]++B) :: Ds) r).Perm (Fe (A++x :: B) Ds (u :: r)++[m]):=by
 have c:BP G x.n root (A++[x]++B) Ds:=by have:=h.dn;simpa using this
 have q:∀ i∈x.its,CO i<=244/\i.k.length<=200:=λi l=>by obtain⟨a,b,_⟩:=c.sz (x:=x) (by simp) l;exact⟨a,b⟩
 obtain⟨o,F,Q⟩:=Xz E (by have:=h.le;omega) (λi l=>(q i (gW l)).1);rw[g,t]at o
 have hits:x.its=X++y :: Y:=by rw[<- g,<- t,DX]
 have v:x.n≠m:=λe=>s (by rw[<- e];exact BL _ (Cm (by simp) Ds))
 have H:G' x.n=BM Ds.isEmpty (⟨m,y.k,y :: Y⟩ :: B) ⟨x.n,x.lo,X⟩:=by rw[j,Be v,Dq]
 have I:G' m=BM Ds.isEmpty B ⟨m,y.k,y :: Y⟩:=by rw[j,Dq]
 have w:=(q y (by rw[hits];simp)).2
 have EM:=wV (G:=G) (f:=x.n) (A:=A) (B:=B) (M:=[x]) c (by simpa using hits) o.ne.1 rfl (λ_ _=>rfl) (by have:=c.ord;rw[<- hits];simpa using this) o u.y.n H I w (h.dn.RZ0 x (by simp)) (λJ=>by
  rw[<- g,jC F];exact Mc c J x AZ)
 have z:=Pnd.up (add:=[m]) (del:=[]) (d:=244) c h.abv.1 h.abv.2 EM (by simp) rfl (by have:=h.nd;simpa using this) ⟨x,AZ,rfl⟩
  (λp C D=>by
    have K:p≠x.n:=λe=>C (by rw[e];simp);have L:p≠m:=λe=>D (by rw[e];simp)
    rw[j,Be L,Be K]) (λp N=>by rw[BH.1 N];simpa using s) (by simp) (by simp) (by
    rw[h.abv.1.its];refine gX ?_ (λR=>⟨rfl,rfl, ?_⟩)
    ·simp only[DW,KT,Dn,Hf,XC];omega
    ·show Ak [Dx _]<=Ak ([]:List It)+244
     simp only[Dn,Hf,XC];omega) (AY _)
 obtain⟨O,P⟩:=z;refine⟨O, ?_⟩
 have e:A++x :: B=A++[x]++B:=by simp
 rw[e];simpa[Dx]using P
def Pnd.left(h:Pnd G root Ds A x B (u :: r)){b:List It}{it:It}(e:u.U=b++[it]):∃ A' l,A=A'++[l]/\it=Dx l/\MO G x.n root A' [l,x] B { u with U:=b }:=by
 have a:=h.abv.1.left;rw[e,<- BU]at a
 obtain⟨A',l,rfl⟩:∃ A' l,A=A'++[l]:=by
  rcases dJ A with rfl |⟨A',l,rfl⟩
  ·simp at a
  ·exact⟨A',l,by simp⟩
 rw[D9,List.map_singleton]at a;obtain⟨d,f⟩:=List.append_inj' a rfl
 have c:it=Dx l:=by simpa using f
 refine⟨A',l,rfl,c,⟨?_,d,h.abv.1.right,h.abv.1.head,h.abv.1.pages,h.abv.1.fit⟩⟩;rw[h.abv.1.its,e,c];simp
def Pnd.right(h:Pnd G root Ds A x B (u :: r)){c:List It}{it:It}(e:u.V=it :: c):∃ a l,B=l :: a/\it=Dx l/\MO G x.n root A [x,l] a { u with V:=c }:=by
 have b:=h.abv.1.right;rw[e]at b
 cases B with
 | nil=>simp at b
 | cons l a =>
   rw[DW,F7]at b
   injection b with h2 h1
   refine⟨a,l,rfl,h2,⟨?_,h.abv.1.left,h1,h.abv.1.head,h.abv.1.pages,h.abv.1.fit⟩⟩;rw[h.abv.1.its,e,h2];simp
end
structure Pair (G:Nat->Pg) (f root:Nat) (Ds:List (List Nd)) (A:List Nd) (l r:Nd) (B:List Nd) (u:CY) (ups:List CY):Prop where
 dn:BP G f root (A++[l,r]++B) Ds
 up:MO G f root A [l,r] B u
 abv:FI G f root u.A u.y u.B ups
 nd:(Fe (A++[l,r]++B) Ds (u :: ups)).Nodup
 one:f=l.n\/f=r.n
section
variable {G G':Nat->Pg} {f root:Nat} {A B:List Nd} {l r:Nd} {Ds:List (List Nd)} {u:CY} {ups:List CY}
def Pair.lr(h:Pair G f root Ds A l r B u ups):l.n≠r.n/\l.n≠root/\r.n≠root:=by
 obtain⟨R,b,j⟩:=Np (A++[l,r]++B) Ds;have nd:=h.nd;unfold Fe at nd;rw[b]at nd
 have a:((A.map (·.n))++l.n :: r.n :: (B.map (·.n))++(R++Zq (u :: ups))).Nodup:=by
  simpa[D9,BU]using nd
 obtain⟨c,d⟩:=ED1 a
 have g:root∈Zq (u :: ups):=by
  cases ups with
  | nil =>
    obtain⟨k,m,i,o⟩:=h.abv;refine BL _ ?_;rw[<- i];exact F6 (BC _ AZ)
  | cons v t=>exact BC _ (FI.root h.abv (by simp))
 have:=d root (.inr (.inr (BC _ g)));exact⟨c,λe=>this.1 e.symm,λe=>this.2 e.symm⟩
def BP.fits:∀ {Ds:List (List Nd)} {L:List Nd},BP G f root L Ds->∀ x∈L,x.n≠f->La Ds.isEmpty root x
 | [],_,h,x,hx,hn=>Jw.fit h x hx hn
 | _ :: _,_,h,x,hx,hn=>h.1.fit x hx hn
def Pair.merge (h:Pair G f root Ds A l r B u ups) (m:Ak (body Ds.isEmpty (l.its++r.its))<=1012) (c:G'=Ja G l.n (BM Ds.isEmpty B ⟨l.n,l.lo,l.its++r.its⟩)) :
 Pnd G' root ((A++[⟨l.n,l.lo,l.its++r.its⟩]++B) :: Ds) u.A ⟨u.y.n,u.y.lo,u.U++[⟨l.lo,Ba l.n⟩]++u.V⟩ u.B ups /\
 (Fe (u.A++(⟨u.y.n,u.y.lo,u.U++[⟨l.lo,Ba l.n⟩]++u.V⟩:Nd) :: u.B) ((A++[⟨l.n,l.lo,l.its++r.its⟩]++B) :: Ds) ups++[r.n]).Perm (Fe (A++[l,r]++B) Ds (u :: ups)):=by
 obtain⟨g,n2,s⟩:=h.lr
 have b:Ds.isEmpty=false->l.its≠[]:=λt e=>by
  have:=Mc h.dn (by rintro rfl;cases t) l (by simp);rw[e]at this;simp at this
 have k:La Ds.isEmpty root ⟨l.n,l.lo,l.its++r.its⟩:=by
  refine⟨m,λ_=>?_,λi=>?_⟩
  ·show 180<=Ak (body Ds.isEmpty (l.its++r.its));rw[iR b,Ff]
   rcases h.one with e | e
   ·have:=(h.dn.fits r (by simp) (λa=>g (by rw [<- e,a]))).ge s;have j:=KK1 Ds.isEmpty r.its;omega
   ·have:=(h.dn.fits l (by simp) (λa=>g (by rw [a,e]))).ge n2;omega
  ·have v:l.its≠[]:=b i
   have j:r.its≠[]:=λe=>by
    have:=Mc h.dn (by rintro rfl;cases i) r (by simp);rw[e]at this;simp at this
   have:=QY.2 v;have:=QY.2 j;show 2<=(l.its++r.its).length;rw[A8];omega
 have EM:=GD1 (G':=G') h.dn u.y.n (by rw[c,Dq]) k
 have o:=Pnd.up (add:=[]) (del:=[r.n]) (d:=0) h.dn h.up h.abv EM (by simp) rfl h.nd (h.one.elim (λe=>⟨l,by simp,e.symm⟩) (λe=>⟨r,by simp,e.symm⟩))
  (λp q _=>by
    rw[c,Be (λe=>q (by rw[e];simp))]) (by simp) (by simp) (by simp) (by
    rw[h.up.its];refine gX ?_ (λz=>⟨rfl,rfl, ?_⟩)
    ·simp only[DW,KT,Dn,Hf,XC];omega
    ·show Ak ([]:List It)<=Ak [Dx _]+0
     rw[Hf];exact BR _) (by omega)
 obtain⟨w,x⟩:=o;exact⟨w,by simpa[Dx]using x⟩
def Pair.share (h:Pair G f root Ds A l r B u ups) (w:1012<Ak (body Ds.isEmpty (l.its++r.its))) (z:Ak (body Ds.isEmpty (l.its++r.its))<=1404) {X Y:List It} {y:It} (j:(l.its++r.its).take (F8 Ds.isEmpty (l.its++r.its))=X) (v:(l.its++r.its).drop (F8 Ds.isEmpty (l.its++r.its))=y :: Y)
 (m:G'=Ja (Ja G l.n (BM Ds.isEmpty (⟨r.n,y.k,y :: Y⟩ :: B) ⟨l.n,l.lo,X⟩)) r.n (BM Ds.isEmpty B ⟨r.n,y.k,y :: Y⟩)) :
 Pnd G' root ((A++[⟨l.n,l.lo,X⟩,⟨r.n,y.k,y :: Y⟩]++B) :: Ds) u.A ⟨u.y.n,u.y.lo,u.U++[⟨l.lo,Ba l.n⟩,⟨y.k,Ba r.n⟩]++u.V⟩ u.B ups /\
 (Fe (u.A++(⟨u.y.n,u.y.lo,u.U++[⟨l.lo,Ba l.n⟩,⟨y.k,Ba r.n⟩]++u.V⟩:Nd) :: u.B) ((A++[⟨l.n,l.lo,X⟩,⟨r.n,y.k,y :: Y⟩]++B) :: Ds) ups).Perm (Fe (A++[l,r]++B) Ds (u :: ups)):=by
 obtain⟨E,n2,O⟩:=h.lr
 have q:∀ i∈l.its++r.its,CO i<=244/\i.k.length<=200:=λi c=>by
  rcases BO.1 c with c | c
  ·obtain⟨a,b,_⟩:=h.dn.sz (x:=l) (by simp) c;exact⟨a,b⟩
  ·obtain⟨a,b,_⟩:=h.dn.sz (x:=r) (by simp) c;exact⟨a,b⟩
 obtain⟨o,F,N⟩:=Xz w z (λi c=>(q i (gW c)).1);rw[j,v]at o
 have hits:l.its++r.its=X++y :: Y:=by rw[<- j,<- v,DX]
 have H:G' l.n=BM Ds.isEmpty (⟨r.n,y.k,y :: Y⟩ :: B) ⟨l.n,l.lo,X⟩:=by rw[m,Be E,Dq]
 have I:G' r.n=BM Ds.isEmpty B ⟨r.n,y.k,y :: Y⟩:=by rw[m,Dq]
 have C:=(q y (by rw[hits];simp)).2
 have EM:=wV (x:=l) h.dn (by simpa using hits) o.ne.1 rfl (λ_ _=>rfl) (by
  have:=xO (A:=A) (B:=B) (l:=l) (r:=r) (by have:=h.dn.ord;simpa using this) l.n
  rw[hits]at this;exact this) o u.y.n H I C (h.dn.RZ0 l (by simp)) (λJ=>by
  have g:=Mc h.dn J l (by simp);rw[<- j,jC F]
  cases c:l.its with
  | nil=>rw[c]at g;simp at g
  | cons i t=>rw[c]at g;exact g)
 have D:=Pnd.up (add:=[]) (del:=[]) (d:=244) h.dn h.up h.abv EM (by simp) rfl h.nd (h.one.elim (λe=>⟨l,by simp,e.symm⟩) (λe=>⟨r,by simp,e.symm⟩))
  (λp s _=>by
    have g:p≠l.n:=λe=>s (by rw[e];simp);have K:p≠r.n:=λe=>s (by rw[e];simp)
    rw[m,Be K,Be g]) (by simp) (by simp) (by simp) (by
    rw[h.up.its];refine gX ?_ (λP=>⟨rfl,rfl, ?_⟩)
    ·simp only[DW,KT,Dn,Hf,XC];omega
    ·show Ak [Dx _]<=Ak [Dx _]+244
     simp only[Dn,Hf,XC];omega) (AY _)
 obtain⟨L,M⟩:=D;exact⟨L,by simpa[Dx]using M⟩
end
section
variable {G G':Nat->Pg} {root:Nat} {A B:List Nd} {x:Nd} {Ds:List (List Nd)}
def Pnd.top(h:Pnd G root Ds A x B []):A=[]/\B=[]/\x.n=root/\x.lo=[]:=h.abv
def Pnd.pG(h:Pnd G root Ds A x B [])(b:Ak (body Ds.isEmpty x.its)<=1012)(c:Ds≠[]->2<=x.its.length)(d:G'=Ja G root (BM Ds.isEmpty [] x)):NH G' root x Ds/\Gl [x] Ds=Fe (A++x :: B) Ds []:=by
 obtain⟨f,g,a,i⟩:=h.top;subst f g;have:=qO h.dn h.abv h.nd ⟨b,λe=>absurd a e,λj=>c (by rintro rfl;cases j)⟩;rw[a]at this;subst d;exact⟨⟨this.1,a,i⟩,by unfold Fe;show _=Gl [x] Ds++[];rw[GI]⟩
def Pnd.rW (h:Pnd G root Ds A x B []) (U:1012<Ak (body Ds.isEmpty x.its)) {d m2:Nat} (g:d∉Fe (A++x :: B) Ds []) (j:m2∉Fe (A++x :: B) Ds []) (Q:d≠m2) {X Y:List It} {y:It} (r:x.its.take (F8 Ds.isEmpty x.its)=X) (I:x.its.drop (F8 Ds.isEmpty x.its)=y :: Y)
 (m:G'=Ja (Ja (Ja G d (BM Ds.isEmpty [⟨m2,y.k,y :: Y⟩] ⟨d,[],X⟩)) m2 (BM Ds.isEmpty [] ⟨m2,y.k,y :: Y⟩)) root (FX ⟨root,[],[⟨[],Ba d⟩,⟨y.k,Ba m2⟩]⟩)) :
 NH G' root ⟨root,[],[⟨[],Ba d⟩,⟨y.k,Ba m2⟩]⟩ ([⟨d,[],X⟩,⟨m2,y.k,y :: Y⟩] :: Ds) /\
 (Gl [⟨root,[],[⟨[],Ba d⟩,⟨y.k,Ba m2⟩]⟩] ([⟨d,[],X⟩,⟨m2,y.k,y :: Y⟩] :: Ds)).Perm (Fe (A++x :: B) Ds []++[d,m2]):=by
 obtain⟨s,V,J,W⟩:=h.top;subst s V;obtain⟨R,K,L⟩:=Np [x] Ds
 have N:Fe ([]++x :: []) Ds []=root :: R:=by
  unfold Fe;show Gl [x] Ds++[]=_;rw[GI,K,<- J];rfl
 have nd:=h.nd;rw[N]at g j nd;simp only[BI,not_or]at g j;obtain⟨Z,_⟩:=FP.1 nd;have l:BP G x.n root ([]++[x]++[]) Ds:=h.dn
 have F:∀ i∈x.its,CO i<=244/\i.k.length<=200:=λi u=>by obtain⟨a,b,_⟩:=l.sz (x:=x) (by simp) u;exact⟨a,b⟩
 obtain⟨o,hk,aa⟩:=Xz U (by have:=h.le;omega) (λi u=>(F i (gW u)).1);rw[r,I]at o
 have hits:x.its=X++y :: Y:=by rw[<- r,<- I,DX]
 have v:G' d=BM Ds.isEmpty [⟨m2,y.k,y :: Y⟩] ⟨d,[],X⟩:=by rw[m,Be g.1,Be Q,Dq]
 have w:G' m2=BM Ds.isEmpty [] ⟨m2,y.k,y :: Y⟩:=by rw[m,Be j.1,Dq]
 have g3:G' root=FX ⟨root,[],[⟨[],Ba d⟩,⟨y.k,Ba m2⟩]⟩:=by rw[m,Dq]
 have S:=(F y (by rw[hits];simp)).2
 have O:Yy ([]++(⟨d,[],X++y :: Y⟩:Nd) :: []):=by
  have h1:=l.ord;obtain⟨h2,_⟩:=Fq.1 h1;refine Fq.2 ⟨⟨by rw[<- hits];exact h2.1,λe he=>ZE _⟩,⟨nO,λ_ h=>by cases h⟩,λ_ h=>by cases h⟩
 have P:BP G' 0 root ([]++[(⟨d,[],X⟩:Nd),⟨m2,y.k,y :: Y⟩]++[]) Ds:=by
  refine l.EM (M:=[x]) (B:=[]) ⟨by simp[hits], ?_,λz c=>?_,λs=>absurd rfl s,λf z c=>?_,λf=>?_,λf z c _=>?_,λz c _=>?_⟩ (λz c=>by simp at c) (λD t f p hp _=>?_)
  ·have:=yI O rfl o.ne.1 d m2;simpa using this
  ·rcases BI.1 c with rfl | c
   ·exact BR _
   ·rw[BH.1 c];exact S
  ·rcases BI.1 c with rfl | c
   ·show X.head?.map (·.k)=some [];rw[<- r,jC hk,Mc l f x AZ,W]
   ·rw[BH.1 c];rfl
  ·subst f;exact⟨λ_=>v,λ_=>w,trivial⟩
  ·have hb:Ds.isEmpty=false:=by cases Ds with | nil=>exact absurd rfl f | cons _ _=>rfl
   rw[hb]at v w
   rcases BI.1 c with rfl | c
   ·exact v
   ·rw[BH.1 c];exact w
  ·rcases BI.1 c with rfl | c
   ·exact o.tX _ _ _
   ·rw[BH.1 c];exact o.uB _ _ _
  ·have C:p∈R:=by rw [L D t f];exact hp
   have q:p≠root:=λe=>Z (by rw[<- e];exact C);have E:p≠d:=λe=>g.2 (by rw[<- e];exact C);have a3:p≠m2:=λe=>j.2 (by rw[<- e];exact C);exact⟨by rw[J];exact q,by rw[m,Be q,Be a3,Be E]⟩
 refine⟨⟨⟨⟨rfl,λz c=>?_,λz c _=>?_,λz c _=>?_⟩,P⟩,rfl,rfl⟩, ?_⟩
 ·rw[BH.1 c];rfl
 ·rw[BH.1 c];exact g3
 ·rw [BH.1 c];refine⟨?_,λe=>absurd rfl e,λ_=>AY _⟩;show Ak [⟨y.k,Ba m2⟩]<=1012;simp only[Dn,Hf,CO,fourL_len];omega
 ·rw [N];show List.Perm ([root]++Gl [(⟨d,[],X⟩:Nd),⟨m2,y.k,y :: Y⟩] Ds) _;obtain⟨R',H,T⟩:=Np [(⟨d,[],X⟩:Nd),⟨m2,y.k,y :: Y⟩] Ds
  have:R'=R:=by
   cases Ds with
   | nil =>
     have q:R=[]:=by have:[x.n]=[x.n]++R:=K;simpa using this
     have E:R'=[]:=by have:[d,m2]=[d,m2]++R':=H;simpa using this
     rw[q,E]
   | cons D t=>rw[L D t rfl,T D t rfl]
  rw[H,this];refine JW.2 λa=>?_;simp only[DW,KT,JD,RF,YI];omega
def Pnd.LO1{D:List Nd}(h:Pnd G root (D :: Ds) A x B [])(Y:x.its.length<=1)(Z:root≠0):∃ c,D=[c]/\x.its=[Dx c]/\c.n≠root/\G c.n=BM Ds.isEmpty [] c/\NH (Ja G root (BM Ds.isEmpty [] c)) root ⟨root,[],c.its⟩ Ds/\(Gl [⟨root,[],c.its⟩] Ds++[c.n]).Perm (Fe (A++x :: B) (D :: Ds) []):=by
 obtain⟨m,O,o,P⟩:=h.top;subst m O;have q:=h.dn;have i:x.its.head?.map (·.k)=some x.lo:=q.1.head x (by simp);have Q:[x].flatMap (·.its)=D.map Dx:=q.1.its
 have w:D.map Dx=x.its:=by rw[<- Q];simp
 obtain⟨c,S⟩:∃ c,D=[c]:=by
  have g:D.length=x.its.length:=by rw[<- w,BZ]
  match D,g with
  | [],g =>
    have:x.its=[]:=TE.1 (by simpa using g.symm);rw[this]at i;simp at i
  | [c],_=>exact⟨c,rfl⟩
  | _ :: _ :: _,g=>simp only[DF]at g;omega
 subst S;have s:x.its=[Dx c]:=w.symm
 have K:c.lo=[]:=by
  rw[s]at i
  have:c.lo=x.lo:=by simpa[Dx]using i
  rw[this,P]
 obtain⟨R,y,C⟩:=Np [c] Ds
 have E:Fe ([]++x :: []) ([c] :: Ds) []=root :: c.n :: R:=by
  unfold Fe;show([x].map (·.n)++Gl [c] Ds)++[]=_;rw[GI,y,<- o];rfl
 have nd:=h.nd;rw[E]at nd;obtain⟨F,n2⟩:=FP.1 nd;obtain⟨n3,_⟩:=FP.1 n2;have u:c.n≠root:=λe=>F (by rw[<- e];exact AZ)
 have l:c.n≠x.n:=by rw[o];exact u
 have f:BP G x.n root [c] Ds:=q.2
 have L:G c.n=BM Ds.isEmpty [] c:=by
  cases Ds with
  | nil=>exact f.pages.1 l
  | cons H t=>exact f.1.pages c AZ l
 have r:La Ds.isEmpty root c:=f.fits c AZ l
 have I:La Ds.isEmpty root ⟨root,[],c.its⟩:=⟨r.le,λe=>absurd rfl e,r.two⟩
 refine⟨c,rfl,s,u,L,⟨?_,rfl,rfl⟩, ?_⟩
 ·have J:Yy [(⟨root,[],c.its⟩:Nd)]:=by
   obtain⟨T,_⟩:=Fq.1 f.ord;exact Fq.2 ⟨⟨T.1,λe he=>ZE _⟩,⟨nO,λ_ h=>by cases h⟩,λ_ h=>by cases h⟩
  have:=BP.EM (G':=Ja G root (BM Ds.isEmpty [] c)) (f':=0) (A:=[]) (M:=[c]) (M':=[⟨root,[],c.its⟩]) (B:=[]) f ⟨by simp,J,λz b=>?_,λm=>absurd rfl m,λd z b=>?_,λd=>?_,λd z b _=>?_,λz b _=>?_⟩ (λz b=>by simp at b) (λH t d p U _=>?_)
  ·exact this
  ·rw[BH.1 b];exact BR _
  ·rw [BH.1 b];show c.its.head?.map (·.k)=some [];rw[Mc (A:=[]) (B:=[]) (M:=[c]) (by simpa using f) d c AZ,K]
  ·subst d;exact⟨λ_=>Dq,trivial⟩
  ·rw [BH.1 b]
   have V:Ds.isEmpty=false:=by cases Ds with | nil=>exact absurd rfl d | cons _ _=>rfl
   rw[V];exact Dq
  ·rw[BH.1 b];exact I
  ·have W:p∈R:=by rw [C H t d];exact U
   have j:p≠root:=λe=>F (by rw[<- e];exact BF _ W);exact⟨by rw[o];exact j,Be j⟩
 ·rw [E];obtain⟨R',v,N⟩:=Np [(⟨root,[],c.its⟩:Nd)] Ds
  have:R'=R:=by
   cases Ds with
   | nil =>
     have j:R=[]:=by have:[c.n]=[c.n]++R:=y;simpa using this
     have X:R'=[]:=by have:[root]=[root]++R':=v;simpa using this
     rw[j,X]
   | cons D t=>rw[C D t rfl,N D t rfl]
  rw[v,this];refine JW.2 λa=>?_;simp only[DW,KT,JD,RF,YI];omega
end
def ahead(key:Ky)(past:Bool)(i:It):Bool:=Op.bytesLess i.k key ||(past && i.k == key)
def Yh{key:Ky}{i:It}:ahead key true i=true↔EU i.k key:=by
 unfold ahead;simp only[Bool.true_and,YK,OG];constructor
 ·rintro (h | h)
  ·exact Lr h
  ·rw[h];exact Px _
 ·intro h
  rcases Uk h with h | h
  ·exact .inl h
  ·exact .inr h
def Uy{key:Ky}{i:It}:ahead key false i=true↔ltK i.k key:=by
 unfold ahead ltK;simp
def cnt(key:Ky)(past:Bool)(l:List It):Nat:=(l.takeWhile (ahead key past)).length
abbrev NI(l:List It):Prop:=l.Pairwise (λa b=>ltK a.k b.k)
def YH0{key:Ky}{past:Bool}{a b:It}(h:ltK a.k b.k)(c:ahead key past b=true):ahead key past a=true:=by
 cases past with
 | true=>exact Yh.2 (Lr (Ho h (Yh.1 c)))
 | false=>exact Uy.2 (Fg h (Uy.1 c))
def cnt_le(key:Ky)(past:Bool)(l:List It):cnt key past l<=l.length:=by
 unfold cnt;exact(List.takeWhile_sublist _).length_le
def Qy {key:Ky} {past:Bool}:∀ {l:List It},NI l->(∀ i∈l.take (cnt key past l),ahead key past i=true)/\∀ i∈l.drop (cnt key past l),ahead key past i=false
 | [],_=>⟨λi h=>by simp[cnt]at h,λi h=>by simp at h⟩
 | a :: l,hs=>by
   obtain⟨d,f⟩:=JK.1 hs;by_cases c:ahead key past a=true
   ·have e:cnt key past (a :: l)=cnt key past l+1:=by unfold cnt;rw [QW,AC c];rfl
    rw[e,DY,IC];obtain⟨p,q⟩:=Qy (key:=key) (past:=past) f;exact⟨λi b=>(BI.1 b).elim (λe=>e ▸ c) (p i),q⟩
   ·have e:cnt key past (a :: l)=0:=by unfold cnt;rw [QW,AO c];rfl
    rw[e];refine⟨λi b=>by simp at b,λi b=>?_⟩
    rcases BI.1 b with rfl | b
    ·simpa using c
    ·cases g:ahead key past i with
     | false=>rfl
     | true=>exact absurd (YH0 (d i b) g) c
def cnt_lt{key:Ky}{past:Bool}{l:List It}(a:NI l){m:Nat}(e:m<l.length):(ahead key past l[m]=true->m<cnt key past l)/\(ahead key past l[m]=false->cnt key past l<=m):=by
 obtain⟨b,c⟩:=Qy (key:=key) (past:=past) a;constructor
 ·intro h;refine FC λd=>?_
  have:l[m]∈l.drop (cnt key past l):=by
   rw[Aa4];exact⟨m-cnt key past l,by omega,by congr 1;omega⟩
  rw[c _ this]at h;cases h
 ·intro h;refine FC λd=>?_
  have:l[m]∈l.take (cnt key past l):=by
   rw[nC];exact⟨m,by omega,rfl⟩
  rw[b _ this]at h;cases h
structure At (key:Ky) (A:List Nd) (x:Nd) (B:List Nd):Prop where
 lo:EU x.lo key
 hi:∀ b∈B,ltK key b.lo
def At.left{key:Ky}{A B:List Nd}{x:Nd}(h:At key A x B)(b:Yy (A++x :: B)):∀ a∈A,∀ i∈a.its,ltK i.k key:=λa c i d =>
 Ho (((Qa.1 b).2.2 a c x AZ).2 i d) h.lo
def At.right{key:Ky}{A B:List Nd}{x:Nd}(h:At key A x B)(c:Yy (A++x :: B)):∀ b∈B,∀ i∈b.its,ltK key i.k:=λb a i d =>
 Ho (h.hi b a) ((c.2 b (BC _ (BF _ a))).2 i d)
section
variable {G:Nat->Pg} {f root:Nat} {A B D:List Nd} {x:Nd} {Ds:List (List Nd)} {ups:List CY}
def DT1 (h:BP G f root (A++x :: B) (D :: Ds)) (k:FI G f root A x B ups) {U V:List It} {it:It} (e:x.its=U++it :: V) :
 ∃ A' y a,D=A'++y :: a/\it=Dx y/\BP G f root (A'++y :: a) Ds/\FI G f root A' y a (⟨A,x,U,V,B⟩ :: ups)/\A'.map Dx=A.flatMap (·.its)++U/\a.map Dx=V++B.flatMap (·.its):=by
 have b:=h.1.its;rw[H5,IK,e]at b
 have i:D.map Dx=(A.flatMap (·.its)++U)++it :: (V++B.flatMap (·.its)):=by rw[<- b];simp
 obtain⟨A',l,rfl,c,j⟩:=List.map_eq_append_iff.1 i;obtain⟨y,a,rfl,d,g⟩:=List.map_eq_cons_iff.1 j;refine⟨A',y,a,rfl,d.symm,h.2,⟨⟨?_,c.symm,g.symm,h.1.head,h.1.pages,h.1.fit⟩,k⟩,c,g⟩;rw[e,<- d];simp
def JJ1 (h:BP G f root (A++x :: B) (D :: Ds)) (k:FI G f root A x B ups) {key:Ky} (o:At key A x B) :
 ∃ U it V,x.its=U++it :: V/\U.length=cnt key true (x.its.drop 1)/\∃ A' y d,D=A'++y :: d/\it=Dx y/\BP G f root (A'++y :: d) Ds/\FI G f root A' y d (⟨A,x,U,V,B⟩ :: ups)/\At key A' y d:=by
 have p:=BP.ord h;have n:=(p.2 x (by simp)).1;have l:=h.1.head x (by simp)
 obtain⟨m,cs,i⟩:∃ m cs,x.its=m :: cs:=by
  cases v:x.its with
  | nil=>rw[v]at l;simp at l
  | cons a b=>exact⟨a,b,rfl⟩
 rw[i]at n l
 have t:m.k=x.lo:=by simpa using l
 obtain⟨R,w⟩:=JK.1 n;obtain⟨C,E⟩:=Qy (key:=key) (past:=true) w;have Q:=cnt_le key true cs
 have s:x.its.drop 1=cs:=by rw[i];rfl
 rw[s];generalize S:cnt key true cs=c at *
 have P:c<x.its.length:=by rw[i];simp only[DF];omega
 have e:x.its=x.its.take c++x.its[c] :: x.its.drop (c+1):=by
  rw[List.getElem_cons_drop,DX]
 refine⟨x.its.take c,x.its[c],x.its.drop (c+1),e,by rw[CU];omega, ?_⟩;obtain⟨A',y,d,F,q,H,I,T,J⟩:=DT1 h k e;refine⟨A',y,d,F,q,H,I,⟨?_,λb K=>?_⟩⟩
 ·have L:y.lo=(x.its[c]).k:=by rw [q];rfl
  rw[L]
  cases c with
  | zero =>
    have:(x.its[0]).k=x.lo:=by simp only[i,List.getElem_cons_zero];exact t
    rw[this];exact o.lo
  | succ j =>
    have W:j<cs.length:=by omega
    have:x.its[j+1]=cs[j]:=by simp only[i,List.getElem_cons_succ]
    rw[this];exact Yh.1 (C cs[j] (by rw[nC];exact⟨j,by omega,rfl⟩))
 ·have g:Dx b∈d.map Dx:=F6 K;rw[J]at g;show ltK key (Dx b).k
  rcases BO.1 g with g | g
  ·have M:Dx b∈cs.drop c:=by rw [i] at g;exact g
   have r:=E _ M;refine FO1 λN=>?_
   rw[Yh.2 N]at r;cases r
  ·obtain ⟨z,O,u⟩:=MG.1 g;exact o.right p z O _ u
def iY(h:BP G f root (A++x :: B) []){key:Ky}(e:At key A x B):(∀ i∈A.flatMap (·.its)++x.its.take (cnt key false x.its),ltK i.k key)/\(∀ i∈x.its.drop (cnt key false x.its),EU key i.k)/\(∀ i∈B.flatMap (·.its),ltK key i.k):=by
 have c:Yy (A++x :: B):=BP.ord h;obtain⟨g,j⟩:=Qy (key:=key) (past:=false) ((c.2 x (by simp)).1);refine⟨λi a=>?_,λi a=>?_,λi a=>?_⟩
 ·rcases BO.1 a with a | a
  ·obtain ⟨z,d,b⟩:=MG.1 a;exact e.left c z d i b
  ·exact Uy.1 (g i a)
 ·refine FB1 λl=>?_
  have:=j i a;rw[Uy.2 l]at this;cases this
 ·obtain ⟨z,d,b⟩:=MG.1 a;exact e.right c z d i b
def qY (h:BP G 0 root (A++x :: B) []) (k:FI G 0 root A x B ups) (nd:(Fe (A++x :: B) [] ups).Nodup) (o:∀ p∈Fe (A++x :: B) [] ups,p≠0) {X:List It} (q:NI X) (r:∀ e∈X,EU x.lo e.k) (s:∀ e∈X,∀ b∈B,ltK e.k b.lo) (t:∀ i∈X,RQ i) (u:Ak X<=1256) :
 Pnd G root [] A ⟨x.n,x.lo,X⟩ B ups/\Fe (A++(⟨x.n,x.lo,X⟩:Nd) :: B) [] ups=Fe (A++x :: B) [] ups:=by
 have j:Fe (A++(⟨x.n,x.lo,X⟩:Nd) :: B) [] ups=Fe (A++x :: B) [] ups:=by
  unfold Fe;show(A++_ :: B).map (·.n)++_=(A++_ :: B).map (·.n)++_;rw[D9,DW,D9,DW]
 have m:((A.map (·.n))++x.n :: (B.map (·.n))++(Zq ups)).Nodup:=by
  have:=nd;unfold Fe Gl at this;simpa[D9,BU]using this
 obtain⟨y,n2,C⟩:=bI m;have d:Jw G 0 root (A++x :: B):=h
 have f:∀ p,p≠x.n->p∈Fe (A++x :: B) [] ups->p≠0/\G p=G p:=λp _ g=>⟨o p g,rfl⟩
 have mem:∀ z∈A++x :: B,z.n∈Fe (A++x :: B) [] ups:=λz a=>BL _ (F6 a)
 have hb2:∀ z∈A++(⟨x.n,x.lo,X⟩:Nd) :: B,z=⟨x.n,x.lo,X⟩\/(z∈A++x :: B):=λz a=>by
  rcases BO.1 a with a | a
  ·exact .inr (by simp[a])
  ·rcases BI.1 a with a | a
   ·exact .inl a
   ·exact .inr (by simp[a])
 refine⟨⟨⟨JZ1 d.ord q r s x.n,λz a i l=>?_,λz a=>?_, ?_,λz a c=>?_⟩,k.congr (λp g c=>f p c (BC _ g)) rfl rfl,by rw[j];exact nd,u⟩,j⟩
 ·rcases hb2 z a with rfl | a
  ·exact t i l
  ·exact d.keys z a i l
 ·rcases hb2 z a with rfl | a
  ·exact d.RZ0 x (by simp)
  ·exact d.RZ0 z a
 ·obtain ⟨v,w⟩:=Jh.1 d.pages;refine Jh.2 ⟨Oa v (λz a c=>f z.n c (mem z (by simp[a]))),⟨λc=>absurd rfl c,Oa w.2 (λz a c=>f z.n c (mem z (by simp[a])))⟩⟩
 ·rcases hb2 z a with rfl | a
  ·exact absurd rfl c
  ·exact d.fit z a (f z.n c (mem z a)).1
end
structure St where
 q:Nat
 G:Nat->Pg
 fr:List Nat
def Xu(p:Pg):Prop:=1<=p.1/\p.1<=5/\p.2.1<=2147483647/\Ce p.2.2<=1012
def Qe(p:Pg):ByteArray:=Dj p.1 p.2.1 p.2.2
def Me{k l:Nat}(a:1<=k)(b:k<=5)(c:l<=2147483647):Xu (k,l,[]):=⟨a,b,c,by show Ce []<=1012;decide⟩
def YS0{p:Pg}(h:Xu p):Ie (Qe p)=some p:=Nz.2 ⟨h.1,h.2.1,h.2.2.1,h.2.2.2,(Rn h).symm⟩
def Xr{p:Pg}(h:Xu p):(Qe p).size=1024:=Rh h.1 h.2.1 h.2.2.1 h.2.2.2
def VT (G:Nat->Pg):List Nat->Prop
 | []=>True
 | x :: r=>G x=(3,r.headD 0,[])/\VT G r
structure St.In (S:St) (N:Bk) (free:Nat):Prop where
 q:N.q=S.q
 pg:∀ n,n<S.q->Xu (S.G n)/\N.K n=Qe (S.G n)
 fr:free=S.fr.headD 0
 chain:VT S.G S.fr
 root:S.G 0=(4,S.fr.headD 0,[])
 rng:∀ x∈S.fr,0<x/\x<S.q
 nd:S.fr.Nodup
 pos:0<S.q
 few:S.q<=65536
def St.set(S:St)(n:Nat)(p:Pg):St:={ S with G:=Ja S.G n p }
def St.alloc (S:St):St:=match S.fr with
 | []=>⟨S.q+1,Ja S.G S.q (3,0,[]),[]⟩
 | x :: r=>⟨S.q,Ja (Ja S.G 0 (4,r.headD 0,[])) x (3,0,[]),r⟩
def St.Aj(S:St):Nat:=S.fr.headD S.q
def St.free(S:St)(x:Nat):St:=⟨S.q,Ja (Ja S.G x (3,S.fr.headD 0,[])) 0 (4,x,[]),x :: S.fr⟩
def Jz {G G':Nat->Pg}:∀ {l:List Nat},VT G l->(∀ x∈l,G' x=G x)->VT G' l
 | [],_,_=>trivial
 | x :: r,h,hc=>⟨(hc x AZ).trans h.1,Jz h.2 λy a=>hc y (BF _ a)⟩
section
variable {S:St} {N:Bk} {f:Nat}
def St.In.PS1(h:S.In N f):S.fr.headD 0<S.q:=by
 cases a:S.fr with
 | nil=>exact h.pos
 | cons x r=>exact(h.rng x (by rw[a];exact AZ)).2
def St.In.set(h:S.In N f){n:Nat}(g:0<n)(i:n<S.q)(a:n∉S.fr){p:Pg}(b:Xu p):(S.set n p).In (N.put n (Qe p)) f:=by
 refine⟨h.q,λm c=>?_,h.fr,Jz h.chain λx d=>Be λe=>a (e ▸ d), ?_,h.rng,h.nd,h.pos,h.few⟩
 ·show Xu (Ja S.G n p m)/\(if m=n then Qe p else N.K m)=Qe (Ja S.G n p m);by_cases e:m=n
  ·rw[AC e,e,Dq];exact⟨b,rfl⟩
  ·rw[AO e,Be e];exact h.pg m c
 ·show Ja S.G n p 0=_;rw[Be (by omega)];exact h.root
def St.In.new(h:S.In N f)(a:S.fr=[])(g:S.q<=60000):S.alloc.In N.grow 0/\S.Aj=S.q:=by
 have e:S.alloc=⟨S.q+1,Ja S.G S.q (3,0,[]),[]⟩:=by unfold St.alloc;rw[a]
 rw[e];refine⟨⟨D8 (·+ 1) h.q,λm b=>?_,rfl,trivial, ?_,(λx c=>by cases c),VM,Nat.succ_pos _,by show S.q+1<=_;omega⟩,by unfold St.Aj;rw[a];rfl⟩
 ·have d:m<S.q+1:=b;show Xu (Ja S.G S.q (3,0,[]) m)/\(if m=N.q then Hu else N.K m)=Qe (Ja S.G S.q (3,0,[]) m);rw[h.q];by_cases e:m=S.q
  ·rw[AC e,e,Dq];exact⟨Me (by omega) (by omega) (by omega),rfl⟩
  ·rw[AO e,Be e];exact h.pg m (by omega)
 ·have i:=h.pos;show Ja S.G S.q (3,0,[]) 0=_;rw[Be (by omega),h.root,a]
def St.In.old(h:S.In N f){x:Nat}{r:List Nat}(a:S.fr=x :: r):S.alloc.In ((N.put 0 (Dj 4 (r.headD 0) [])).put x Hu) (r.headD 0)/\S.Aj=x/\N.K x=Dj 3 (r.headD 0) []/\r.headD 0<=2147483647:=by
 have e:S.alloc=⟨S.q,Ja (Ja S.G 0 (4,r.headD 0,[])) x (3,0,[]),r⟩:=by unfold St.alloc;rw[a]
 have j:=h.rng x (by rw[a];exact AZ);have d:=h.chain;rw[a]at d;have g:=h.nd;rw[a]at g;obtain⟨k,n2⟩:=FP.1 g;have l:=h.pg x j.2
 have o:r.headD 0<=65536:=by
  have:=h.few
  cases i:r with
  | nil=>exact BR _
  | cons y t=>have:=(h.rng y (by rw[a,i];simp)).2;show y<=_;omega
 rw[e];refine⟨⟨h.q,λm n=>?_,rfl,Jz d.2 λy b=>?_, ?_,λy b=>h.rng y (by rw[a];exact BF _ b),n2,h.pos,h.few⟩,by unfold St.Aj;rw[a];rfl,by rw[l.2,d.1];rfl,by omega⟩
 ·show Xu (Ja (Ja S.G 0 (4,r.headD 0,[])) x (3,0,[]) m)/\(if m=x then Hu else if m=0 then Dj 4 (r.headD 0) [] else N.K m)=Qe (Ja (Ja S.G 0 (4,r.headD 0,[])) x (3,0,[]) m);by_cases e:m=x
  ·rw[AC e,e,Dq];exact⟨Me (by omega) (by omega) (by omega),rfl⟩
  ·rw [AO e,Be e];by_cases c:m=0
   ·rw[AC c,c,Dq];exact⟨Me (by omega) (by omega) (by omega),rfl⟩
   ·rw[AO c,Be c];exact h.pg m n
 ·have:y≠x:=λe=>k (e ▸ b);show Ja (Ja S.G 0 _) x _ y=S.G y;rw[Be this,Be (by have:=(h.rng y (by rw[a];exact BF _ b)).1;omega)]
 ·show Ja (Ja S.G 0 _) x _ 0=_;rw[Be (by omega),Dq]
def St.In.freed(h:S.In N f){x:Nat}(d:0<x)(g:x<S.q)(c:x∉S.fr):(S.free x).In ((N.put x (Dj 3 f [])).put 0 (Dj 4 x [])) x:=by
 have k:=h.PS1;have j:=h.few;refine⟨h.q,λm i=>?_,rfl,⟨?_,Jz h.chain λy a=>?_⟩,(Dq:Ja (Ja S.G x (3,S.fr.headD 0,[])) 0 (4,x,[]) 0=(4,x,[])),λy a=>?_,FP.2 ⟨c,h.nd⟩,h.pos,h.few⟩
 ·show Xu (Ja (Ja S.G x (3,S.fr.headD 0,[])) 0 (4,x,[]) m)/\(if m=0 then Dj 4 x [] else if m=x then Dj 3 f [] else N.K m)=Qe (Ja (Ja S.G x (3,S.fr.headD 0,[])) 0 (4,x,[]) m);by_cases b:m=0
  ·rw[AC b,b,Dq];exact⟨Me (by omega) (by omega) (by omega),rfl⟩
  ·rw [AO b,Be b];by_cases e:m=x
   ·rw [AC e,e,Dq];exact⟨Me (by omega) (by omega) (by omega),by rw[h.fr];rfl⟩
   ·rw[AO e,Be e];exact h.pg m i
 ·show Ja (Ja S.G x _) 0 _ x=_;rw[Be (by omega),Dq]
 ·show Ja (Ja S.G x _) 0 _ y=_;rw[Be (by have:=(h.rng y a).1;omega),Be (λe=>c (by rw[<- e];exact a))]
 ·rcases BI.1 a with rfl | a
  ·exact⟨d,g⟩
  ·exact h.rng y a
end
def PT(w:World)(X:List (Option Nat))(p:Nat)(S S0:St)(c k:Nat):Prop :=
 ∃ b d g a m2 e h t A P B N f,X=allB b g a m2 p e h t A/\PM w b d g a m2 p e h t A P/\Cal P B N c k/\S.In N P.free/\S0.In B f
section
variable {w w':World} {X Y Y':List (Option Nat)} {p c k c' k':Nat} {S S0:St}
def PT.more(h:PT w X p S S0 c k)(a:c<=c')(d:k<=k'):PT w X p S S0 c' k':=by
 obtain⟨b,f,g,i,m2,e,h,t,A,P,B,N,j,l,m,n,o,q⟩:=h;exact⟨b,f,g,i,m2,e,h,t,A,P,B,N,j,l,m,n.more a d,o,q⟩
def PT.lt(h:PT w X p S S0 c k):∀ i,some i∈X->i<w.heap.size:=by
 obtain⟨b,d,g,f,m2,e,h,t,A,P,B,N,j,rfl,a,l,m,n⟩:=h;exact a.lt
def PT.below(h:PT w X p S S0 c k)(a:Below w.heap.size w w'):PT w' X p S S0 c k:=by
 obtain⟨b,d,g,f,m2,e,h,t,A,P,B,N,i,j,l,m,n,o⟩:=h;exact⟨b,d,g,f,m2,e,h,t,A,P,B,N,i,j,l.below a,m,n,o⟩
def PT.far(h:PT w X p S S0 c k)(a:Turn Y Y' w w')(d:∀ i,some i∈Y->some i∉X):PT w' X p S S0 c k:=by
 obtain⟨b,f,g,j,m2,e,h,t,A,P,B,N,l,rfl,m,n,o,q⟩:=h;exact⟨b,f,g,j,m2,e,h,t,A,P,B,N,l,rfl,m.far a d,n,o,q⟩
end
def Gw(X:List (Option Nat))(w:World)(p:Nat)(S S0:St)(c k:Nat)(v:Value)(a:Ending)(w':World):Prop:=a = .returned v/\∃ X',PT w' X' p S S0 c k/\Turn X X' w w'
section
variable {w:World} {X:List (Option Nat)} {p c k:Nat} {S S0:St}
def UT{P:Pl}{B N:Bk}(h:Cal P B N c k)(a:k<=900000000):Fit P.L.D 80000:=⟨h.pin.ok.log.disk,by have:=h.count;omega,by have:=h.waits;omega⟩
def OM1 (h:PT w X p S S0 c k) (j:c<=60000) (l:k<=900000000) {n:Nat} (f:n<S.q) :
 Calls Tryz.prog 70 #[.pointer (some ⟨p,0,none⟩),.int .i64 n] w (Gw X w p S S0 c (k+1) (.tuple #[.string (Qe (S.G n)),.int .i64 0])):=by
 obtain⟨b,i,g,m,m2,e,h,t,A,P,B,N,o,rfl,r,d,a,s⟩:=h;obtain⟨u,v,y⟩:=d.get j (x:=n) (by rw[a.q];exact f);have H:=a.few;refine(bJ b i g m m2 p e h t A P n (by unfold QJ;omega) w r d.pin.ok ((UT d l).less (by omega))).mono ?_;rintro I w' ⟨z,C,D,n2,A',E,F⟩;refine⟨?_,_,⟨C,i,g,D,n2,e,h,t,A',_,B,N,o,rfl,E,v, ?_,s⟩,F⟩
 ·rw[z,u,y,(a.pg n f).2]
 ·rw[(Zu (P:=P) n).2.2.1];exact a
def gY (h:PT w X p S S0 c k) (i:c<=60000) (m:k<=900000000) {n:Nat} (o:0<n) (j:n<S.q) (r:n∉S.fr) {pg:Pg} (d:Xu pg) :
 Calls Tryz.prog 72 #[.pointer (some ⟨p,0,none⟩),.int .i64 n,.string (Qe pg)] w (Gw X w p (S.set n pg) S0 (c+1) (k+1) (.int .i64 0)):=by
 obtain⟨b,l,g,u,m2,e,h,t,A,P,B,N,v,rfl,y,a,f,z⟩:=h;obtain⟨C,D⟩:=a.write i (x:=n) (by rw[f.q];exact j) (Xr d) (by omega);have L:=f.few;refine(AQ1 b l g u m2 p e h t A P n (by unfold QJ;omega) (Qe pg) w y a.pin.ok ((UT a m).less (by omega))).mono ?_;rintro M w' ⟨E,F,G,n2,A',H,I⟩;have J:P.write n (Qe pg)=P.put n (Qe pg):=AO (by rw[Xr d];omega);refine⟨by rw[E,C],_,⟨F,l,g,G,n2,e,h,t,A',_,B,N.put n (Qe pg),v,rfl,H,D, ?_,z⟩,I⟩;obtain⟨O,Q,R,K,T⟩:=YW a.pin (BN a.wt i) n (s:=Qe pg) (Xr d);rw[J,K];exact f.set o j r d
def Z9 (h:PT w X p S S0 c k) (I:c+1<=60000) (J:k<=900000000) (y:S.q<=60000) :
 Calls Tryz.prog 45 #[.pointer (some ⟨p,0,none⟩)] w (Gw X w p S.alloc S0 (c+2) (k+4) (.tuple #[.int .i64 S.Aj,.int .i64 0])):=by
 obtain⟨b,m,g,K,m2,e,h,t,A,P,B,N,z,rfl,L,i,a,C⟩:=h;refine(AJ1 b m g K m2 p e h t A P w L i.pin.ok ((UT i J).less (by omega))).mono ?_;rintro R w' ⟨D,E,F,n2,A',G,H⟩
 by_cases n:S.fr=[]
 ·have d:P.free=0:=by rw [a.fr,n];rfl
  obtain⟨f,o,j,s⟩:=i.JB1 (by omega) (by rw[a.q];exact y) d;obtain⟨u,v⟩:=a.new n y;refine⟨?_,_,⟨E,m,g,F,n2,e,h,t,A',_,B,N.grow,z,rfl,G,j.more (by omega) (AY _),by rw[s];exact u,C⟩,H⟩;rw[D,f,v];unfold Pl.Rf;rw[AC f,o,a.q]
 ·obtain ⟨x,r,l⟩:=List.exists_cons_of_ne_nil n;have M:=a.rng x (by rw[l];exact AZ)
  have d:P.free=x:=by rw[a.fr,l];rfl
  obtain⟨u,v,O,Q⟩:=a.old l;obtain⟨f,o,j,s⟩:=i.IP1 I (by omega) (by rw[d,a.q];exact M.2) Q (by rw[d];exact O);rw[d]at j;refine⟨?_,_,⟨E,m,g,F,n2,e,h,t,A',_,B,_,z,rfl,G,j,by rw[s];exact u,C⟩,H⟩;rw[D,f,v];unfold Pl.Rf;rw[AC f,o,d]
def WB (h:PT w X p S S0 c k) (j:c+2<=60000) (l:k<=900000000) {x:Nat} (m:0<x) (f:x<S.q) (n:x∉S.fr) :
 Calls Tryz.prog 80 #[.pointer (some ⟨p,0,none⟩),.int .i64 x] w (Gw X w p (S.free x) S0 (c+2) (k+3) (.int .i64 0)):=by
 obtain⟨b,i,g,o,m2,e,h,t,A,P,B,N,r,rfl,s,a,d,u⟩:=h;have H:=d.few;obtain⟨v,y,z⟩:=a.free j (x:=x) (by rw[d.q];exact f) (by omega);refine(IF1 b i g o m2 p e h t A P x (by unfold QJ;omega) w s a.pin.ok ((UT a l).less (by omega))).mono ?_;rintro I w' ⟨C,D,E,n2,A',F,G⟩;exact⟨by rw[C,v],_,⟨D,i,g,E,n2,e,h,t,A',_,B,_,r,rfl,F,y,by rw[z];exact d.freed m f n,u⟩,G⟩
end
open Go.BigFrame
def Gp(w:World):Calls Tryz.prog 129 #[.int .i64 0] w λe w'=>e = .returned (.tuple #[])/\w=w':=by
 go_enter Tryz.func129,Tryz.ntmps129
 go_wp2
 go_end0
 exact⟨rfl,rfl⟩
def Ny(s:ByteArray)(f:s.size<=9223372036854775807)(w:World):Calls Tryz.prog 48 #[.string s] w λe w'=>e = .returned (.bool (decide (1<=s.size/\s.size<=200)))/\w=w':=by
 by_cases a:1<=s.size
 ·by_cases b:s.size<=200
  ·rw [EW (show 1<=s.size/\s.size<=200 from ⟨a,b⟩)]
   have c:decide ((1:Int)<=(s.size:Int))=true:=by simp;omega
   have d:decide ((s.size:Int)<=200)=true:=by simp;omega
   go_enter Tryz.func48,Tryz.ntmps48
   go_wp2
   go_ret;exact⟨rfl,rfl⟩
  ·rw [EY (λh:1<=s.size/\s.size<=200=>b h.2)]
   have d:decide ((s.size:Int)<=200)=false:=by simp;omega
   go_enter Tryz.func48,Tryz.ntmps48
   go_wp2
   go_ret;exact⟨rfl,rfl⟩
 ·rw [EY (λh:1<=s.size/\s.size<=200=>a h.1)]
  have c:decide ((1:Int)<=(s.size:Int))=false:=by simp;omega
  go_enter Tryz.func48,Tryz.ntmps48
  go_wp2
  go_ret;exact⟨rfl,rfl⟩
def V8{s:ByteArray}(h:0<s.size):s.toList.isEmpty=false:=by
 rw[EL]
 cases c:s.data.toList with
 | nil =>
   have b:s.data.toList.length=s.size:=JX;rw[c]at b;have:(0:Nat)=s.size:=b;omega
 | cons a l=>rfl
def AC1(s:ByteArray)(a:0<s.size)(b:1+s[0].toNat<=s.size)(c:s.size<=100000)(w:World):Calls Tryz.prog 51 #[.string s] w λe w'=>e = .returned (.string (s.extract 1 (1+s[0].toNat)))/\w=w':=by
 have d:=V8 a;have f:=Ic s[0]
 have g:decide ((s.size:Int)<1+(s[0].toNat:Int))=false:=by simp;omega
 have h:(0:Int)<(s.size:Int):=by omega
 go_enter Tryz.func51,Tryz.ntmps51
 go_wp2
 go_ret;exact⟨rfl,rfl⟩
def cell0(i:It)(c:i.k.length<=200):∃ a:0<(Af i).size,((Af i)[0]'a).toNat=i.k.length/\(Af i).extract 1 (1+i.k.length)=AQ i.k/\(Af i).extract (1+i.k.length) (Af i).size=AQ i.r:=by
 have b:=Nr i;refine⟨by omega, ?_, ?_, ?_⟩
 ·show (((Af i).data[0]'(by show 0<(Af i).size;omega))).toNat=_;simp only[Af,AQ,cellL,List.getElem_toArray,List.getElem_cons_zero,MR];omega
 ·rw [<- Jy ((Af i).extract 1 (1+i.k.length)),RG]
  congr 1
  rw[Af,Cb,cellL,IC,GV,show 1+i.k.length-1=i.k.length by omega,List.take_left'];rfl
 ·rw [<- Jy ((Af i).extract (1+i.k.length) (Af i).size),RG]
  congr 1
  rw[b,Af,Cb,cellL,Nat.add_comm 1,IC,List.drop_left',EE (by omega)];rfl
def Il(i:It)(a:i.k.length<=200)(f:i.r.length<=5000)(w:World):Calls Tryz.prog 51 #[.string (Af i)] w λe w'=>e = .returned (.string (AQ i.k))/\w=w':=by
 obtain⟨b,c,d,g⟩:=cell0 i a;have h:=Nr i;have:=AC1 (Af i) b (by omega) (by omega) w;rw[c,d]at this;exact this
def Ui(i:It)(c:i.k.length<=200)(g:i.r.length<=5000)(w:World):Calls Tryz.prog 136 #[.string (Af i)] w λe w'=>e = .returned (.string (AQ i.r))/\w=w':=by
 obtain⟨h,j,l,d⟩:=cell0 i c;have K:=Ac (Il i c g w);have m:=Nr i;have n:=Ac d;have f:(AQ i.k).size=i.k.length:=Bf _;have a:=Ac f;generalize Af i=s at *;generalize AQ i.k=b at *;clear j l d f
 have o:(1+b.size:Int)<=(s.size:Int):=by rw[a.out];omega
 have p:(1+b.size)<=s.size:=by rw[a.out];omega
 have q:b.size<=200:=by rw[a.out];exact c
 clear m h;go_enter Tryz.func136,Tryz.ntmps136
 go_wp2_with (first |(go_at_call 51;refine(K).mono ?_;rintro e w1 ⟨rfl,rfl⟩))
 go_ret;exact⟨by show Ending.returned (.string (s.extract (1+b.size) s.size))=_;rw[a.out,n.out],rfl⟩
theorem qB(l:Ky):AQ l=bsOf l:=rfl
def BY1(n:Nat):Ba n=BJ n 4:=(tN n).symm
def LC1{r:Ky}(h:r.length=4):Gi r=DC (r.take 4):=by
 match r,h with
 | [a,b,c,d],_ =>
   rw[gG];unfold Gi;simp only[List.getD_cons_zero,List.getD_cons_succ];omega
def Uf(n:Nat)(c:n<=4611686018427387904)(w:World):Calls Tryz.prog 134 #[.int .i64 n] w λe w'=>e = .returned (.string (AQ (Ba n)))/\Below w.heap.size w w':=by
 rw[BY1,qB];have a:=vZ w n;obtain⟨S,b⟩:∃ S,bsOf (BJ n 4)=S:=⟨_,rfl⟩;rw[b]at a ⊢;go_enter Tryz.func134,Tryz.ntmps134
 go_wp2
 go_ret;exact⟨rfl,(AU _ _).alloc (AY _) _⟩
def PS0(s:ByteArray)(f:s.size=4)(w:World):Calls Tryz.prog 137 #[.string s] w λe w'=>e = .returned (.int .i64 (DC (s.data.toList.take 4):Nat))/\Below w.heap.size w w':=by
 have k:0<s.size:=by omega
 have l:1<s.size:=by omega
 have m:2<s.size:=by omega
 have n:3<s.size:=by omega
 have g:s.data.toList=s[0] :: s[1] :: s[2] :: s[3] :: s.data.toList.drop 4:=by
  have e (i:Nat) (h:i<s.size):s.data.toList[i]'(by simpa using h)=s[i]:=by simp[ByteArray.getElem_eq_getElem_data]
  rw[<- e 0 k,<- e 1 l,<- e 2 m,<- e 3 n];rw[<- FQ,<- FQ,<- FQ,<- FQ];rfl
 have E:=Ac (show DC (s.data.toList.take 4)=s[0].toNat*16777216+s[1].toNat*65536+s[2].toNat*256+s[3].toNat by rw[g];exact gG _ _ _ _ _);clear g;rw[E.out];have o:=Ic s[0];have p:=Ic s[1];have q:=Ic s[2];have r:=Ic s[3]
 have O:=Ac (show ∀ a b c d:Nat,a<256->b<256->c<256->d<256->bits .or .i64 (bits .or .i64 (bits .or .i64 ((a:Int)*16777216) ((b:Int)*65536)) ((c:Int)*256)) (d:Int)=((a*16777216+b*65536+c*256+d:Nat):Int)from λa b c d z A t B=>by
  have u:=SH 24 (a*16777216) (b*65536) (by omega) (by omega) (by omega);have v:=SH 16 (a*16777216+b*65536) (c*256) (by omega) (by omega) (by omega);have x:=SH 8 (a*16777216+b*65536+c*256) d (by omega) (by omega) (by omega);rw[<- x,<- v,<- u]
  simp only[nP];rfl)
 have C:(1:Int)<(s.size:Int):=by omega
 have D:(2:Int)<(s.size:Int):=by omega
 have F:(3:Int)<(s.size:Int):=by omega
 have G:((s.size:Int) != 4)=false:=by rw[QS];omega
 clear f;go_enter Tryz.func137,Tryz.ntmps137
 go_wp2_with fail
 refine Du (w) (by kernel_rfl) (by kernel_rfl) (CQ.start _) ?_
 repeat
  first
   | go_big_quiet_skip
   |(go_big_quiet_want;(first | go_big_quiet_op | go_simp);first | go_big_quiet_on |(apply NC;refine⟨λw' j=>?_, ?_⟩;(·(first |(with_reducible exact rfl) |(fail) |(obtain⟨t,I⟩:=j.facts;go_simp;first | done |(with_reducible exact rfl) |(with_reducible exact⟨rfl,rfl⟩))));go_big_quiet_on))
 refine MQ ?_;intro J y
 go_wp2_with fail
 go_ret;exact⟨UN (O _ _ _ _ o p q r),y.bel⟩
def Uu(r:Ky)(a:r.length=4)(w:World):Calls Tryz.prog 137 #[.string (AQ r)] w λe w'=>e = .returned (.int .i64 (Gi r))/\Below w.heap.size w w':=by
 have:=PS0 (AQ r) (by rw[Bf,a]) w;rw[Cb,<- LC1 a]at this;exact this
def IL1(w:World)(n:Nat):(convert 39 9 (.slice (some ⟨w.heap.size,0,none⟩) 1 1)).run Tryz.prog (w.alloc (.cells #[.int .u8 ((n:Int) % 256)] 5)) = .ok (.string (bsOf [UInt8.ofNat n])) (w.alloc (.cells #[.int .u8 ((n:Int) % 256)] 5)):=by
 have:=UR (c:=1) (BS.VS (Has.new w 5 (CG [UInt8.ofNat n]).toArray))
 have e:CG [UInt8.ofNat n]=[.int .u8 ((n:Int) % 256)]:=by
  simp only[CG,LU,DW,KT,Iw]
 rw[e]at this;exact this
def WE(a b:Ky):AQ a++AQ b=AQ (a++b):=by
 have:(AQ a++AQ b).data.toList=a++b:=by simp[AQ]
 rw[<- Jy (AQ a++AQ b),this]
def Rq(i:It)(h:i.k.length<=200)(j:i.r.length<=5000)(w:World):Calls Tryz.prog 133 #[.string (AQ i.k),.string (AQ i.r)] w λe w'=>e = .returned (.string (Af i))/\Below w.heap.size w w':=by
 have c:=IL1 w i.k.length;rw[show(i.k.length:Int) % 256=i.k.length by omega]at c;have d:(AQ i.k).size=i.k.length:=Bf _;have f:(AQ i.r).size=i.r.length:=Bf _;have E:=Ac (show AQ [UInt8.ofNat i.k.length]++AQ i.k++AQ i.r=Af i by rw[WE,WE];rfl);have g:(AQ [UInt8.ofNat i.k.length]).size=1:=Bf _;rw[<- qB]at c;generalize AQ [UInt8.ofNat i.k.length]=x at *;generalize AQ i.k=a at *;generalize AQ i.r=b at *;rw[<- E.out];have l:=Ac d
 have m:a.size<=200:=by omega
 have n:b.size<=5000:=by omega
 have o:x.size<=1:=by omega
 rw[<- d]at c;clear d f g;go_enter Tryz.func133,Tryz.ntmps133
 go_wp2
 go_ret;exact⟨rfl,(AU _ _).alloc (AY _) _⟩
abbrev OV(n k l:Nat)(v:Value):Value:=.agg #[.int .i64 n,.int .i64 k,.int .i64 l,v]
def jR(n k l:Nat)(v:Value)(w:World):Calls Tryz.prog 130 #[OV n k l v] w λe w'=>e = .returned (.bool ((k:Int) == 1))/\Below w.heap.size w w':=by
 go_enter Tryz.func130,Tryz.ntmps130
 go_wp2
 go_ret;exact⟨rfl,(AU _ _).alloc (AY _) _⟩
def IU(l:List It):Prop:=∀ i∈l,i.k.length<=200/\i.r.length<=5000
def ZB{w:World}{A:Option Addr}{m:Nat}{l:List It}(h:SS w A m (l.map Af)):l.length=m/\(0<m->∃ b off,A=some ⟨b,off,none⟩/\b<w.heap.size/\∀ i (a:i<l.length),w.cell? ⟨b,off+i,none⟩=some (.string (Af l[i]))):=by
 refine⟨by have:=h.1;simpa using this,λc=>?_⟩;obtain⟨b,off,d,e,f⟩:=h.2 c;exact⟨b,off,d,e,λi a=>f i _ (by simp[a])⟩
def IT1(a b:Ky):Op.bytesLess (AQ a).toList (AQ b).toList=Op.bytesLess a b:=by rw[EL,EL,Cb,Cb]
def PN1(a b:Ky):((AQ a).toList == (AQ b).toList)=(a == b):=by rw[EL,EL,Cb,Cb]
def jF (n k l m c:Nat) (A:Option Addr) (d:List It) (key:Ky) (past:Bool) (w:World) (h:SS w A m (d.map Af)) (I:IU d) (J:NI d) (hm:m<=1000000) :
 Calls Tryz.prog 131 #[OV n k l (.slice A m c),.string (AQ key),.bool past] w λe w'=>e = .returned (.int .i64 (cnt key past d))/\Below w.heap.size w w':=by
 obtain⟨u,E⟩:=ZB h;have s:=cnt_le key past d;have CL:=Ac (λ(i:Nat) (f:i<d.length)=>cnt_lt (key:=key) (past:=past) J f);have L:=Ac I;generalize Y:cnt key past d=x at *
 rw[u]at s;have M:=Ac E;have HL:=Ac u;obtain⟨K,N⟩:∃ K,AQ key=K:=⟨_,rfl⟩
 have F:=Ac (λi:Ky=>(IT1 i key).symm);have G:=Ac (λi:Ky=>(PN1 i key).symm);rw[N]at F G ⊢;clear h E u I J Y N
 cases past
 all_goals
  go_enter Tryz.func131,Tryz.ntmps131
  go_wp2_with fail
  obtain⟨W,g⟩:∃ W,w.alloc (.cells #[.int .i64 n,.int .i64 k,.int .i64 l,.slice A m c] 116)=W:=⟨_,rfl⟩
  have O:Hid (∀ b o,b<w.heap.size->W.cell? ⟨b,o,none⟩=w.cell? ⟨b,o,none⟩):=Ac (by subst g;exact(Yj ((AU w.heap.size w).alloc (AY _) _)).1)
  have P:W.cell? ⟨w.heap.size,3,none⟩=some (.slice A m c):=by subst g;exact(Has.new w _ _).cell 3
  have Q:w.heap.size<W.heap.size:=by subst g;simp
  have R:=Ac (show Below w.heap.size w W by subst g;exact(AU _ _).alloc (AY _) _);rw[g];clear g;refine Du (W) (by kernel_rfl) (by kernel_rfl) (CQ.start _) ?_
  repeat
   first
    | go_big_quiet_skip
    |(go_big_quiet_want;(first | go_big_quiet_op | go_simp);first | go_big_quiet_on |(apply NC;refine⟨λw' Z=>?_, ?_⟩;(·(first |(with_reducible exact rfl) |(fail) |(obtain⟨y,hf⟩:=Z.facts;go_simp;first | done |(with_reducible exact rfl) |(with_reducible exact⟨rfl,rfl⟩))));go_big_quiet_on))
  refine MQ ?_;intro S j
  go_wp2_with fail
  have wz:=j.bel.size;have aa:=Ac (Ap R j.bel (by omega));have q3:S.cell? ⟨w.heap.size,3,none⟩=some (.slice A m c):=(j.facts.1 _ _ Q).trans P
  have QC:Hid (0<m->∃ b off,A=some ⟨b,off,none⟩/\∀ i (f:i<d.length),S.cell? ⟨b,off+i,none⟩=some (.string (Af d[i]))):=Ac (λh0=>by
   obtain⟨b,off,z,C,D⟩:=M h0
   exact⟨b,off,z,λi f=>(j.facts.1 _ _ (by omega)).trans ((O _ _ C).trans (D i f))⟩)
  clear j Q O P M R
  go_loop [7,8] (λlo f=>∃ a b:Nat,a<=x/\x<=b/\b<=m/\lo = .int .i64 a/\f = .int .i64 b) (λlo f=>(intOf f-intOf lo).toNat)
  case atStart=>exact⟨0,m,BR _,s,AY _,rfl,rfl⟩
  case round =>
   obtain⟨a,b,z,C,D,rfl,rfl⟩:=hrel;by_cases ac:a<b
   ·have t:(a+b) / 2<d.length:=by rw [HL.out];omega
    obtain⟨B,off,hA,y⟩:=QC (by omega);have ab:=y _ t;have p:=Il d[(a+b) / 2] (L _ (EI _)).1 (L _ (EI _)).2;obtain⟨q,r⟩:=CL _ t;have T:=F d[(a+b) / 2].k;have U:=G d[(a+b) / 2].k;unfold ahead at q r;rw[T,U]at q r;obtain⟨v,V⟩:∃ v,Af d[(a+b) / 2]=v:=⟨_,rfl⟩;obtain⟨X,H⟩:∃ X,AQ d[(a+b) / 2].k=X:=⟨_,rfl⟩;rw[V]at ab p;rw[H]at p q r;subst hA;have HK:=Ac p
    have ad:(a+b) / 2<m:=by omega
    clear p y T U V H t s
    go_wp2_with (first |(go_at_call 51;refine(HK _).mono ?_;rintro e w1 ⟨rfl,rfl⟩))
    all_goals
     go_round
     case rel =>
      first
       | exact⟨(a+b) / 2+1,b,q (by simp[*]),C,D,by go_num,rfl⟩
       | exact⟨a,(a+b) / 2,z,r (by simp[*]),by omega,rfl,by go_num⟩
     case measure=>simp[intOf];omega
   ·have:a=b:=by omega
    subst this
    obtain rfl:a=x:=by omega
    go_wp2_with fail
    go_ret;exact⟨rfl,aa⟩
def SR0(n k l:Nat)(v:Value)(w:World):Calls Tryz.prog 132 #[OV n k l v,.int .i64 0] w λe w'=>e = .returned (.int .i64 l)/\Below w.heap.size w w':=by
 go_enter Tryz.func132,Tryz.ntmps132
 go_wp2
 go_ret;exact⟨rfl,(AU _ _).alloc (AY _) _⟩
def AI1 (n k l m c:Nat) (A:Option Addr) (cs:List It) (w:World) (h:SS w A m (cs.map Af)) (i:Nat) (q:i<cs.length) (a:IU cs) (o:cs[i].r.length=4) (C:m<=1000000) :
 Calls Tryz.prog 132 #[OV n k l (.slice A m c),.int .i64 ((i+1:Nat):Int)] w λe w'=>e = .returned (.int .i64 (Gi cs[i].r))/\Below w.heap.size w w':=by
 obtain⟨s,g⟩:=ZB h;obtain⟨b,off,rfl,d,f⟩:=g (by omega);have D:=f i q;have t:=Ac (Ui cs[i] (a _ (EI _)).1 (a _ (EI _)).2);have u:=Ac (Uu cs[i].r o)
 have z:i<m:=by omega
 have E:(((i+1:Nat):Int) == 0)=false:=by rw[FK];omega
 have p:(((i+1:Nat):Int)-1)=(i:Int):=by omega
 generalize Af cs[i]=v at *;generalize AQ cs[i].r=r at *;generalize Gi cs[i].r=N at *;have E1:=Ac p;generalize ((i+1:Nat):Int)=j at *;clear h g f a o s p
 have x:j=i+1:=by have:=E1.out;omega
 subst x;go_enter Tryz.func132,Tryz.ntmps132
 go_wp2_with (first |(go_at_call 136;refine(t _).mono ?_;rintro e w1 ⟨rfl,rfl⟩) |(go_at_call 137;refine(u _).mono ?_;rintro e w1 ⟨rfl,d⟩;obtain⟨f,F⟩:=Yj d;have y:=d.size;(try simp at y);have B:w.heap.size<w1.heap.size:=(by omega)))
 go_ret;refine⟨rfl, ?_⟩
 (repeat(first | exact AU _ _ | assumption |(refine YL ?_ (by first | omega |(simp <;> omega)) _) | refine LJ ?_ |(refine YM ?_ (by first | omega |(simp <;> omega)) _) |(refine Ap ?_ (by assumption) (by first | omega |(simp <;> omega)))))
attribute [local go_sem] Ea Bz Bq Act.put
end Go.Proofs.YtjihboddejaelaaGreat
namespace Go.Proofs.YtjihboddejaelaaGreat
open Go.RowKit Go.BigFrame
def Turn.has{X X':List (Option Nat)}{w w':World}{g:Nat}{t:TypeId}{cs:Array Value}(a:Turn X X' w w')(h:Has w g t cs)(b:some g∉X):Has w' g t cs:=(a.block g h.lt b).trans h
def Turn.out{X X':List (Option Nat)}{w w':World}{g:Nat}(a:Turn X X' w w')(b:some g∉X)(c:g<w.heap.size):some g∉X':=λh=>by
 rcases a.new g h with h | h
 ·exact b h
 ·omega
def Has.FU{w:World}{g:Nat}{t:TypeId}{a b c d x y z u:Value}(h:Has w g t #[a,b,c,d]):Has ((((w.setCell ⟨g,0,none⟩ x).setCell ⟨g,1,none⟩ y).setCell ⟨g,2,none⟩ z).setCell ⟨g,3,none⟩ u) g t #[x,y,z,u]:=(((h.set 0 x).set 1 y).set 2 z).set 3 u
def Turn.Dz{X X':List (Option Nat)}{w w':World}(h:Turn X X' w w'){g:Nat}(c:w.heap.size<=g)(i:Nat)(v:Value):Turn X X' w (w'.setCell ⟨g,i,none⟩ v) :=
 ⟨h.os,h.tape,h.output,by have:=h.size;simpa using this,λk a b=>(CX _ _ _ _ (λe=>by have:k=g:=e;omega)).trans (h.block k a b),h.new⟩
def Turn.next{X X':List (Option Nat)}{w w' w2:World}(h:Turn X X' w w')(a:Below w'.heap.size w' w2):Turn X X' w w2:=h.trans (Turn.below _ a)
def PT.set{w:World}{X:List (Option Nat)}{p c k:Nat}{S S0:St}(h:PT w X p S S0 c k){g:Nat}(a:some g∉X)(i:Nat)(v:Value):PT (w.setCell ⟨g,i,none⟩ v) X p S S0 c k :=
 h.far (Eu [some g] g i v w (BH.2 rfl)) λk b=>by cases BH.1 b;exact a
def NW1{X:List (Option Nat)}{w':World}{base:Nat}{e:TypeId}{v:Value}{n:Nat}{xs:List Value}(h:w'.ownsRow base e 1 v n xs)(a:∀ i,some i∈X->i<base):∀ g,v.ownBlock=some g->some g∉X:=λg b c=>by
 have:=(h.lt g b).1;have:=a g c;omega
structure TM (w:World) (X:List (Option Nat)) (tb p root:Nat):Prop where
 has:Has w tb 111 #[.pointer (some ⟨p,0,none⟩),.int .i64 root]
 out:some tb∉X
def TM.turn{X X':List (Option Nat)}{w w':World}{tb p root:Nat}(h:TM w X tb p root)(a:Turn X X' w w'):TM w' X' tb p root:=⟨a.has h.has h.out,a.out h.out h.has.lt⟩
def TM.below{X:List (Option Nat)}{w w':World}{tb p root:Nat}(h:TM w X tb p root)(a:Below w.heap.size w w'):TM w' X tb p root:=⟨h.has.Ai a,h.out⟩
def TM.set{w:World}{X:List (Option Nat)}{tb p root g:Nat}(h:TM w X tb p root)(a:tb≠g)(i:Nat)(v:Value):TM (w.setCell ⟨g,i,none⟩ v) X tb p root:=⟨h.has.far a v,h.out⟩
def xE(X:List (Option Nat))(w:World)(p:Nat)(S S0:St)(c k n:Nat)(pg:Pg)(a:Ending)(w':World):Prop :=
 ∃ A cp X',a = .returned (OV n pg.1 pg.2.1 (.slice A pg.2.2.length cp))/\PT w' X' p S S0 c k/\Turn X X' w w'/\w'.ownsRow w.heap.size 9 1 (.slice A pg.2.2.length cp) pg.2.2.length (strs pg.2.2)/\∀ g,(Value.slice A pg.2.2.length cp).ownBlock=some g->some g∉X'
def kG {w:World} {X:List (Option Nat)} {tb p root c k n:Nat} {S S0:St} (h:PT w X p S S0 c k) (d:TM w X tb p root) (C:c<=60000) (D:k<=900000000) (E:n<S.q) (m:Xu (S.G n)) :
 Calls Tryz.prog 138 #[.pointer (some ⟨tb,0,none⟩),.int .i64 n] w (xE X w p S S0 c (k+1) n (S.G n)):=by
 have M:=Ac h;have Z:=Ac d;have F:=Ac (λW (h:PT W X p S S0 c k)=>OM1 h C D E);have f:=Ac (λW=>yP (Qe (S.G n)) (by rw[Xr m];decide) W);rw[YS0 m]at f;obtain⟨s,H⟩:∃ s,Qe (S.G n)=s:=⟨_,rfl⟩;obtain⟨pg,r⟩:∃ pg,S.G n=pg:=⟨_,rfl⟩;rw[H]at F f;rw[r]at f ⊢;have t0:=d.has.cells2.1;have tz:=d.has.lt;have I:=Has.new w 116 #[.int .i64 0,.int .i64 0,.int .i64 0,.slice none 0 0];have N:=Ac I;have J:=Ac (Ag w (.cells #[.int .i64 0,.int .i64 0,.int .i64 0,.slice none 0 0] 116));have t:=Ac h.lt;clear h d C D E m H r I;go_enter Tryz.func138,Tryz.ntmps138
 go_wp2_with (first
  |(go_at_call 70;refine(F _ (M.below J)).mono ?_;rintro O w1 ⟨rfl,K,u,j⟩;have x:=Ac u;have l:=Ac j;have P:=Ac (j.has N (λo=>by have:=t _ o;omega));clear u j)
  |(go_at_call 129;refine(Gp _).mono ?_;rintro e w1 ⟨rfl,rfl⟩)
  |(go_at_call 124;refine(f _).mono ?_;rintro O w2 ⟨A,cp,rfl,y,hb2⟩;have z:=Ac y;have B:=Ac hb2;have b:=P.Ai hb2;have f2:=b.frozen;have z2:=b.lt;obtain⟨x0,x1,x2,x3⟩:=b.cells4;clear b y hb2))
 refine IQ (v:=OV n pg.1 pg.2.1 (.slice A pg.2.2.length cp)) (by simp[results,Tryz.results138,go_sem, *]) rfl ?_;have L:=x.lt;have Q:=l.size;have g:some w.heap.size∉K:=l.out.out (λo=>by have:=t _ o;omega) (by simp);simp at Q;refine⟨A,cp,K,rfl, ?_, ?_, ?_, ?_⟩
 ·exact(((((x.below B).set g _ _).set g _ _).set g _ _).set g _ _).below (Ag _ _)
 ·exact(((((((Turn.below X J).trans l).next B).Dz (AY _) _ _).Dz (AY _) _ _).Dz (AY _) _ _).Dz (AY _) _ _).next (Ag _ _)
 ·have R:=KQ (a:=⟨w.heap.size,0,none⟩) z (by show w.heap.size<_;omega) (.int .i64 n);have T:=KQ (a:=⟨w.heap.size,1,none⟩) R (by show w.heap.size<_;omega) (.int .i64 pg.1);have U:=KQ (a:=⟨w.heap.size,2,none⟩) T (by show w.heap.size<_;omega) (.int .i64 pg.2.1);have V:=KQ (a:=⟨w.heap.size,3,none⟩) U (by show w.heap.size<_;omega) (.slice A pg.2.2.length cp);exact own_base (own_below V (Ag _ _)) (by omega)
 ·exact NW1 z λi Y=>by have:=L i Y;omega
def Jg {w:World} {X:List (Option Nat)} {tb p root c k n:Nat} {S S0:St} (h:PT w X p S S0 c k) (d:TM w X tb p root) (z:c<=60000) (B:k<=900000000) (C:n<S.q) (D:Xu (S.G n)) (m:(S.G n).1=1\/(S.G n).1=2) :
 Calls Tryz.prog 62 #[.pointer (some ⟨tb,0,none⟩),.int .i64 n] w (xE X w p S S0 c (k+1) n (S.G n)):=by
 have K:=Ac h;have L:=Ac d;have E:=Ac (λW (h:PT W X p S S0 c k) (d:TM W X tb p root)=>kG h d z B C D);obtain⟨pg,o⟩:∃ pg,S.G n=pg:=⟨_,rfl⟩;rw[o]at E m ⊢;have M:=Ac (Has.new w 116 #[.int .i64 0,.int .i64 0,.int .i64 0,.slice none 0 0]);have i:=Ac (Ag w (.cells #[.int .i64 0,.int .i64 0,.int .i64 0,.slice none 0 0] 116));have r:=Ac h.lt;clear h d z B C D o
 rcases m with b | b
 all_goals
  first
   |(have N:((pg.1:Int) != 1)=false:=(by rw[b];rfl);have n2:((pg.1:Int) != 2)=true:=(by rw[b];rfl))
   |(have N:((pg.1:Int) != 1)=true:=(by rw[b];rfl);have n2:((pg.1:Int) != 2)=false:=(by rw[b];rfl))
  clear b;go_enter Tryz.func62,Tryz.ntmps62
  go_wp2_with (first
   |(go_at_call 138;refine(E _ (K.below i) (L.below i)).mono ?_;rintro U w1 ⟨A,cp,F,rfl,s,g,t,u⟩;have x:=Ac s;have y:=Ac g;have I:=Ac t;have J:=Ac u;have j:=Ac (g.has M (λl=>by have:=r _ l;omega));have V:=j.lt;have Y:=j.frozen;obtain⟨Z,x1,x2,x3⟩:=j.cells4;clear s g t u)
   |(go_at_call 129;refine(Gp _).mono ?_;rintro e w1 ⟨rfl,rfl⟩))
  refine IQ (v:=OV n pg.1 pg.2.1 (.slice A pg.2.2.length cp)) (by simp[results,Tryz.results62,go_sem, *]) rfl ?_;have T:=x.lt;have f:some w.heap.size∉F:=y.out.out (λl=>by have:=r _ l;omega) (by simp);refine⟨A,cp,F,rfl, ?_, ?_, ?_,J⟩
  ·exact((((x.set f _ _).set f _ _).set f _ _).set f _ _).below (Ag _ _)
  ·exact((((((Turn.below X i).trans y).Dz (AY _) _ _).Dz (AY _) _ _).Dz (AY _) _ _).Dz (AY _) _ _).next (Ag _ _)
  ·have e:(w.alloc (.cells #[.int .i64 0,.int .i64 0,.int .i64 0,.slice none 0 0] 116)).heap.size=w.heap.size+1:=by simp
   have H:=I.out;rw[e]at H;have O:=KQ (a:=⟨w.heap.size,0,none⟩) H (by show w.heap.size<_;omega) (.int .i64 n);have P:=KQ (a:=⟨w.heap.size,1,none⟩) O (by show w.heap.size<_;omega) (.int .i64 pg.1);have Q:=KQ (a:=⟨w.heap.size,2,none⟩) P (by show w.heap.size<_;omega) (.int .i64 pg.2.1);have R:=KQ (a:=⟨w.heap.size,3,none⟩) Q (by show w.heap.size<_;omega) (.slice A pg.2.2.length cp);exact own_base (own_below R (Ag _ _)) (by omega)
def Hy {w:World} {X:List (Option Nat)} {tb p root c k n m cp:Nat} {S S0:St} {A:Option Addr} {pg:Pg} (h:PT w X p S S0 c k) (t:TM w X tb p root) (u:c<=60000) (v:k<=900000000) (x:0<n) (y:n<S.q) (z:n∉S.fr) (a:Xu pg) (B:SS w A m pg.2.2) (C:m<=1000000) :
 Calls Tryz.prog 46 #[.pointer (some ⟨tb,0,none⟩),OV n pg.1 pg.2.1 (.slice A m cp)] w (Gw X w p (S.set n pg) S0 (c+1) (k+1) (.tuple #[])):=by
 have D:=Ac h;have E:=Ac t;have F:=Ac (λW (h:PT W X p S S0 c k)=>gY h u v x y z a);have g:=Ac (λW (h:SS W A m pg.2.2)=>Uh pg.1 pg.2.1 A m cp pg.2.2 W h (by omega) (by have:=a.2.2.2;omega));have G:Dj (pg.1:Int) (pg.2.1:Int) pg.2.2=Qe pg:=rfl
 have H:Qz (pg.1:Int) (pg.2.1:Int) pg.2.2=0:=by
  have V:=a.1;have Y:=a.2.1;have Z:=a.2.2.1;have a4:=a.2.2.2;unfold Qz;rw[AO (by omega),AO (by omega)]
 rw[G,H]at g;obtain⟨s,i⟩:∃ s,Qe pg=s:=⟨_,rfl⟩;rw[i]at F g;have d:=Ac (Ag w (.cells #[.int .i64 n,.int .i64 pg.1,.int .i64 pg.2.1,.slice A m cp] 116));have j:=Ac (B.keep d);have I:=Ac (Has.new w 116 #[.int .i64 n,.int .i64 pg.1,.int .i64 pg.2.1,.slice A m cp]);have K:=Ac h.lt;clear h t u v x y z a B G H i;go_enter Tryz.func46,Tryz.ntmps46
 go_wp2_with (first
  |(go_at_call 122;refine(g _ j).mono ?_;rintro O w1 ⟨rfl,l⟩;have b:=Ac l;clear l)
  |(go_at_call 129;refine(Gp _).mono ?_;rintro e w1 ⟨rfl,rfl⟩))
 have L:=Ac ((D.below d).below b);have o:=Ac ((E.below d).below b);have J:=Ac (I.Ai b);have P:Hid (some w.heap.size∉X):=Ac (λC=>by have:=K _ C;omega);have t1:=o.has.cell 0;have r1:=J.cell 0;have Q:=Ac ((Turn.below X d).next b);clear D E I d j g b
 go_region_held3 (λw'=>w'.cell? ⟨tb,0,none⟩=some (.pointer (some ⟨p,0,none⟩))/\w'.cell? ⟨w.heap.size,0,none⟩=some (.int .i64 n)) (first | exact (⟨R.has.cell 0,T.cell 0⟩) | go_keep)
  (first
    |(go_at_call 72;refine(F _ (L.below ((AU _ _).drew))).mono ?_;rintro O w2 ⟨rfl,U,r,f⟩;have M:=Ac r;have N:=Ac f;have R:=Ac ((o.below ((AU _ _).drew)).turn f);have T:=Ac (f.has J.drew P);clear r f)
    |(go_at_call 129;refine(Gp _).mono ?_;rintro e w1 ⟨rfl,rfl⟩))
 go_wp2_with fail
 go_end0
 exact⟨rfl,U,M,(Q.next ((AU _ _).drew)).trans N⟩
structure Stp where
 n:Nat
 pg:Pg
 i:Nat
abbrev Ad:=Option Addr×Nat
def JF(s:Stp)(a:Ad):Value:=.slice a.1 s.pg.2.2.length a.2
def JE(s:Stp)(a:Ad):List Value:=[.int .i64 s.n,.int .i64 s.pg.1,.int .i64 s.pg.2.1,JF s a,.int .i64 s.i]
def I4:List Stp->List Ad->List Value
 | s :: ss,a :: rs=>JE s a++I4 ss rs
 | _,_=>[]
def uV:∀ {ss:List Stp} {rs:List Ad} (s:Stp) (a:Ad),rs.length=ss.length->I4 (ss++[s]) (rs++[a])=I4 ss rs++JE s a
 | [],[],s,a,_=>by simp[I4]
 | t :: ss,b :: rs,s,a,h=>by
   rw[F7,F7,I4,I4,uV s a (by simpa using h),BU]
 | [],_ :: _,_,_,h=>by simp at h
 | _ :: _,[],_,_,h=>by simp at h
def pO:∀ {ss:List Stp} {rs:List Ad} {i:Nat} {s:Stp} {a:Ad},ss[i]? = some s->rs[i]? = some a->∀ j,j<5->(I4 ss rs)[5*i+j]? = (JE s a)[j]?
 | t :: ss,b :: rs,0,s,a,h1,h2,j,hj=>by
   have c:t=s:=by simpa using h1
   have d:b=a:=by simpa using h2
   rw[c,d,I4,G9 (by simp[JE];omega)]
   congr 1;omega
 | t :: ss,b :: rs,i+1,s,a,h1,h2,j,hj=>by
   rw[I4,GU (by simp[JE];omega)];rw[show 5*(i+1)+j-(JE t b).length=5*i+j by simp[JE];omega];exact pO (by simpa using h1) (by simpa using h2) j hj
 | [],_,_,_,_,h1,_,_,_=>by simp at h1
 | _ :: _,[],_,_,_,_,h2,_,_=>by simp at h2
def EO(a:Ad):Option Nat:=a.1.map (·.block)
def Ii(s:Stp)(a:Ad):(JF s a).ownBlock=EO a:=by unfold JF EO;cases a.1 <;> rfl
structure Pe (w:World) (X:List (Option Nat)) (base:Nat) (ss:List Stp) (rs:List Ad):Prop where
 len:rs.length=ss.length
 row:∀(i:Nat) (s:Stp) (a:Ad),ss[i]? = some s->rs[i]? = some a->w.ownsRow base 9 1 (JF s a) s.pg.2.2.length (strs s.pg.2.2)
 out:∀ a∈rs,∀ g:Nat,EO a=some g->some g∉X
 one:∀(i j:Nat) (a b:Ad) (g:Nat),rs[i]? = some a->rs[j]? = some b->EO a=some g->EO b=some g->i=j
def Pe.nil(w:World)(X:List (Option Nat))(base:Nat):Pe w X base [] []:=⟨rfl,(λi s a h=>by simp at h),(λa h=>by cases h),(λi j a b g h=>by simp at h)⟩
section
variable {w w':World} {X X':List (Option Nat)} {base:Nat} {ss:List Stp} {rs:List Ad}
def Pe.lt(h:Pe w X base ss rs):∀ a∈rs,∀ g,EO a=some g->base<=g/\g<w.heap.size:=λa c g d=>by
 obtain⟨i,b,rfl⟩:=Aa5 c
 have e:i<ss.length:=by rw[<- h.len];exact b
 have:=h.row i ss[i] rs[i] (by simp[e]) (by simp[b]);exact this.lt g (by rw[Ii];exact d)
def Pe.keep(h:Pe w X base ss rs)(c:∀ a∈rs,∀ g,EO a=some g->some g∉X'/\w'.heap[g]? = w.heap[g]?):Pe w' X' base ss rs:=by
 refine⟨h.len,λi s a k d=>?_,λa l g b=>(c a l g b).1,h.one⟩;have r:=h.row i s a k d;refine⟨r.1, ?_⟩
 rcases r.2 with q |⟨g,cap,j,e,m,b,q⟩
 ·exact .inl q
 ·have f:EO a=some g:=by rw [<- Ii s a,e];rfl
  exact .inr ⟨g,cap,j,e,m,(c a (F5 d) g f).2.trans b,q⟩
def Pe.turn(h:Pe w X base ss rs)(b:Turn X X' w w'):Pe w' X' base ss rs :=
 h.keep λa c g d=>by
  have e:=h.out a c g d;have f:=(h.lt a c g d).2;exact⟨b.out e f,b.block g f e⟩
def Pe.below(h:Pe w X base ss rs)(d:Below w.heap.size w w'):Pe w' X base ss rs :=
 h.keep λa b g c=>⟨h.out a b g c,d.block g (h.lt a b g c).2⟩
def Pe.set(h:Pe w X base ss rs){g:Nat}(d:∀ a∈rs,EO a≠some g)(i:Nat)(v:Value):Pe (w.setCell ⟨g,i,none⟩ v) X base ss rs :=
 h.keep λa b k c=>⟨h.out a b k c,CX _ _ _ _ (λe=>d a b (by rw[c];exact D8 some e))⟩
def Pe.grown(h:Pe w X base ss rs){r:Option Nat}(d:w.grownBy w' r)(e:∀ a∈rs,∀ g,EO a=some g->some g≠r):Pe w' X base ss rs :=
 h.keep λa b k c=>⟨h.out a b k c,d.block k (h.lt a b k c).2 (e a b k c)⟩
def Pe.snoc(h:Pe w X base ss rs){s:Stp}{a:Ad}(v:w.ownsRow base 9 1 (JF s a) s.pg.2.2.length (strs s.pg.2.2))(x:∀ g,EO a=some g->some g∉X)(r:∀ b∈rs,∀ g,EO b=some g->EO a≠some g):Pe w X base (ss++[s]) (rs++[a]):=by
 refine⟨by simp[h.len],λi t b f k=>?_,λb d g m=>?_,λi j b c g f k n o=>?_⟩
 ·by_cases l:i<ss.length
  ·rw [G9 l] at f;rw[G9 (by rw[h.len];exact l)]at k;exact h.row i t b f k
  ·rw [GU (by omega)] at f;rw[GU (by rw[h.len];omega),h.len]at k
   have e:i-ss.length=0:=by
    have:=(C9.1 f).1;simpa using this
   rw[e]at f k
   have y:s=t:=by simpa using f
   have z:a=b:=by simpa using k
   subst y z;exact v
 ·rcases BO.1 d with d | d
  ·exact h.out b d g m
  ·rw[BH.1 d]at m;exact x g m
 ·have key:∀ i b,(rs++[a])[i]? = some b->(i<rs.length/\rs[i]? = some b)\/(i=rs.length/\b=a):=λi b d=>by
   by_cases l:i<rs.length
   ·rw[G9 l]at d;exact .inl ⟨l,d⟩
   ·rw [GU (by omega)] at d
    have e:i-rs.length=0:=by have:=(C9.1 d).1;simpa using this
    rw[e]at d;exact .inr ⟨by omega,by simpa using d.symm⟩
  rcases key i b f with⟨A,u⟩ |⟨A,rfl⟩
  ·rcases key j c k with ⟨p,q⟩ | ⟨p,rfl⟩
   ·exact h.one i j b c g u q n o
   ·exact absurd o (r b (F5 u) g n)
  ·rcases key j c k with ⟨p,q⟩ | ⟨p,rfl⟩
   ·exact absurd n (r c (F5 q) g o)
   ·omega
end
structure Nq (w:World) (X:List (Option Nat)) (base:Nat) (v:Value) (ss:List Stp) (rs:List Ad):Prop where
 own:w.ownsRow base 122 5 v ss.length (I4 ss rs)
 rows:Pe w X base ss rs
 out:∀ g,v.ownBlock=some g->some g∉X
 off:∀ a∈rs,∀ g,EO a=some g->v.ownBlock≠some g
section
variable {w w':World} {X X':List (Option Nat)} {base:Nat} {v:Value} {ss:List Stp} {rs:List Ad}
def Bo{e:TypeId}{k n:Nat}{xs:List Value}(h:w.ownsRow base e k v n xs)(c:∀ g,v.ownBlock=some g->w'.heap[g]? = w.heap[g]?):w'.ownsRow base e k v n xs:=by
 refine⟨h.1, ?_⟩
 rcases h.2 with q |⟨g,cap,b,a,d,f,q⟩
 ·exact .inl q
 ·exact .inr ⟨g,cap,b,a,d,(c g (by rw[a];rfl)).trans f,q⟩
def Nq.turn(h:Nq w X base v ss rs)(b:Turn X X' w w'):Nq w' X' base v ss rs :=
 ⟨Bo h.own λg a=>b.block g (h.own.lt g a).2 (h.out g a),h.rows.turn b,λg a=>b.out (h.out g a) (h.own.lt g a).2,h.off⟩
def Nq.below(h:Nq w X base v ss rs)(a:Below w.heap.size w w'):Nq w' X base v ss rs :=
 ⟨Bo h.own λg b=>a.block g (h.own.lt g b).2,h.rows.below a,h.out,h.off⟩
end
def Nq.UC{w:World}{X:List (Option Nat)}{base:Nat}{v:Value}{ss:List Stp}{rs:List Ad}(h:Nq w X base v ss rs){g:Nat}(b:v.ownBlock≠some g)(c:∀ a∈rs,EO a≠some g)(i:Nat)(u:Value):Nq (w.setCell ⟨g,i,none⟩ u) X base v ss rs :=
 ⟨Bo h.own λk d=>CX _ _ _ _ (λe=>b (by rw[d];exact D8 some e)),h.rows.set c i u,h.out,h.off⟩
def Nq.snoc {w w':World} {X:List (Option Nat)} {base g cap:Nat} {v:Value} {ss:List Stp} {rs:List Ad} {s:Stp} {a:Ad} (h:Nq w X base v ss rs) (t:w'.ownsRow base 122 5 (.slice (some ⟨g,0,none⟩) (ss.length+1) cap) (ss.length+1) (I4 ss rs++JE s a)) (n:w.grownBy w' v.ownBlock) (l:v.ownBlock=some g\/g=w.heap.size) (u:∀ i,some i∈X->i<w.heap.size)
 (m:w.ownsRow base 9 1 (JF s a) s.pg.2.2.length (strs s.pg.2.2)) (j:∀ k,EO a=some k->some k∉X/\(∀ b∈rs,EO b≠some k)/\v.ownBlock≠some k):Nq w' X base (.slice (some ⟨g,0,none⟩) (ss.length+1) cap) (ss++[s]) (rs++[a]):=by
 have q:some g∉X:=λo=>by
  rcases l with e | e
  ·exact h.out g e o
  ·have:=u g o;omega
 have r:w'.ownsRow base 9 1 (JF s a) s.pg.2.2.length (strs s.pg.2.2):=Bo m λk c=>n.block k (m.lt k c).2 (λe=>by rw[Ii]at c;exact(j k c).2.2 e.symm);have p:Pe w' X base ss rs:=h.rows.grown n λb d k c e=>h.off b d k c e.symm;refine⟨by rw[uV _ _ h.rows.len,A8];exact t,p.snoc r (λk c=>(j k c).1) (λb d k c e=>(j k e).2.1 b d c),λk c=>?_,λb d k c e=>?_⟩
 ·have:some g=some k:=c
  cases this;exact q
 ·have:some g=some k:=e
  cases this
  rcases BO.1 d with d | d
  ·rcases l with f | f
   ·exact h.off b d g c f
   ·have:=(h.rows.lt b d g c).2;omega
  ·rw [BH.1 d] at c
   rcases l with f | f
   ·exact(j g c).2.2 f
   ·have:=(m.lt g (by rw[Ii];exact c)).2;omega
section
variable {w w' w2:World} {X X':List (Option Nat)} {p tb root c k:Nat} {S S0:St} {r:Option Nat}
def UD0(a:w.grownBy w' r):Turn [r] [r] w w':=⟨a.os,a.tape,a.output,a.size,λk b c=>a.block k b (λe=>c (by rw[e];exact BH.2 rfl)),λ_ h=>.inl h⟩
def PT.grown(h:PT w X p S S0 c k)(a:w.grownBy w' r)(b:∀ g,r=some g->some g∉X):PT w' X p S S0 c k:=h.far (UD0 a) λi d=>b i (BH.1 d).symm
def TM.grown(h:TM w X tb p root)(a:w.grownBy w' r)(b:some tb≠r):TM w' X tb p root:=⟨h.has.grown a b,h.out⟩
def Turn.Yc(h:Turn X X' w w')(a:w'.grownBy w2 r)(c:∀ g,r=some g->w.heap.size<=g):Turn X X' w w2 :=
 ⟨a.os.trans h.os,a.tape.trans h.tape,a.output.trans h.output,BN h.size a.size,λk b d=>(a.block k (DD b h.size) (λe=>by have:=c k e.symm;omega)).trans (h.block k b d),h.new⟩
end
def PT.FU{w:World}{X:List (Option Nat)}{p c k g:Nat}{S S0:St}{a b d e:Value}(h:PT w X p S S0 c k)(f:some g∉X):PT ((((w.setCell ⟨g,0,none⟩ a).setCell ⟨g,1,none⟩ b).setCell ⟨g,2,none⟩ d).setCell ⟨g,3,none⟩ e) X p S S0 c k:=(((h.set f 0 a).set f 1 b).set f 2 d).set f 3 e
def Turn.UM{X X':List (Option Nat)}{w w':World}{g:Nat}{a b d e:Value}(h:Turn X X' w w')(c:w.heap.size<=g):Turn X X' w ((((w'.setCell ⟨g,0,none⟩ a).setCell ⟨g,1,none⟩ b).setCell ⟨g,2,none⟩ d).setCell ⟨g,3,none⟩ e):=(((h.Dz c 0 a).Dz c 1 b).Dz c 2 d).Dz c 3 e
def TM.FU{w:World}{X:List (Option Nat)}{tb p root g:Nat}{a b d e:Value}(h:TM w X tb p root)(c:tb≠g):TM ((((w.setCell ⟨g,0,none⟩ a).setCell ⟨g,1,none⟩ b).setCell ⟨g,2,none⟩ d).setCell ⟨g,3,none⟩ e) X tb p root:=(((h.set c 0 a).set c 1 b).set c 2 d).set c 3 e
def Nq.FU{w:World}{X:List (Option Nat)}{base g:Nat}{v:Value}{ss:List Stp}{rs:List Ad}{a b d e:Value}(h:Nq w X base v ss rs)(c:v.ownBlock≠some g)(f:∀ a∈rs,EO a≠some g):Nq ((((w.setCell ⟨g,0,none⟩ a).setCell ⟨g,1,none⟩ b).setCell ⟨g,2,none⟩ d).setCell ⟨g,3,none⟩ e) X base v ss rs:=(((h.UC c f 0 a).UC c f 1 b).UC c f 2 d).UC c f 3 e
def Py{w:World}{base g k n:Nat}{t:TypeId}{v:Value}{xs:List Value}{a b d e:Value}(h:w.ownsRow base t k v n xs)(c:v.ownBlock≠some g):((((w.setCell ⟨g,0,none⟩ a).setCell ⟨g,1,none⟩ b).setCell ⟨g,2,none⟩ d).setCell ⟨g,3,none⟩ e).ownsRow base t k v n xs:=by
 have f:∀(w:World) (i:Nat) (u:Value),w.ownsRow base t k v n xs->(w.setCell ⟨g,i,none⟩ u).ownsRow base t k v n xs:=λw i u h=>Bo h λq j=>CX _ _ _ _ (λe=>c (by rw[j];exact D8 some e));exact f _ 3 e (f _ 2 d (f _ 1 b (f _ 0 a h)))
def pV:(Tryz.prog.info? 122).map (λi=>(i.zero,i.size,i.bytes))=some (some (.agg #[.int .i64 0,.int .i64 0,.int .i64 0,.slice none 0 0,.int .i64 0]),5,56):=by kernel_rfl
def NG(u:CY):Stp:=⟨u.y.n,FX u.y,u.U.length⟩
def TR(B:List Nd)(x:Nd):Pg:=(1,hdN B 0,x.its.map Af)
def E8(key:Ky)(B:List Nd)(x:Nd):Stp:=⟨x.n,TR B x,cnt key false x.its⟩
def Ig(ups:List CY):List Stp:=(ups.map NG).reverse
def yE(u:CY)(ups:List CY):Ig (u :: ups)=Ig ups++[NG u]:=by simp[Ig]
def Ci(ups:List CY):(Ig ups).length=ups.length:=by simp[Ig]
section
variable {G:Nat->Pg} {root:Nat} {A B:List Nd} {x:Nd} {Ds:List (List Nd)}
def BP.page(h:BP G 0 root (A++x :: B) Ds)(a:x.n≠0):G x.n=BM Ds.isEmpty B x:=by
 cases Ds with
 | nil =>
   obtain⟨_,b⟩:=Jh.1 (Jw.pages h);exact b.1 a
 | cons D r=>exact h.1.pages x (by simp) a
def BP.well(h:BP G 0 root (A++x :: B) Ds):IU x.its:=λi a=>by
 have:=h.sz (x:=x) (by simp) a;refine⟨this.2.1, ?_⟩;have:=this.1;unfold CO at this;omega
def BP.kids(h:BP G 0 root (A++x :: B) Ds)(a:Ds≠[]):∀ i∈x.its,i.r.length=4:=λi b=>(h.sz (x:=x) (by simp) b).2.2 a
end
def lenOf:Value->Nat
 | .slice _ n _=>n
 | _=>0
def DW1{w:World}{base k n:Nat}{e:TypeId}{v:Value}{xs:List Value}(h:w.ownsRow base e k v n xs):lenOf v=n:=by
 rcases h.2 with⟨a,b⟩ |⟨g,cap,c,a,_⟩
 ·rw[a,b];rfl
 ·rw[a];rfl
def sS(w:World)(X:List (Option Nat))(p tb root c k D base a:Nat)(S S0:St)(T:Nd×List (List Nd))(key:Ky)(e:Value)(wr:World):Prop :=
 ∃ A x B ups Ds rs X' d,BP S.G 0 root (A++x :: B) Ds/\FI S.G 0 root A x B ups/\At key A x B/\ups.length+Ds.length=D/\N9 A x B Ds ups=T /\
   PT wr X' p S S0 c (k+ups.length+1)/\Turn X X' w wr/\TM wr X' tb p root/\Nq wr X' base e (Ig ups) rs /\
   Has wr a 116 #[.int .i64 x.n,.int .i64 (BM Ds.isEmpty B x).1,.int .i64 (BM Ds.isEmpty B x).2.1,JF ⟨x.n,BM Ds.isEmpty B x,0⟩ d] /\
   wr.ownsRow base 9 1 (JF ⟨x.n,BM Ds.isEmpty B x,0⟩ d) (BM Ds.isEmpty B x).2.2.length (strs (BM Ds.isEmpty B x).2.2)/\(∀ g,EO d=some g->some g∉X'/\(∀ b∈rs,EO b≠some g)/\e.ownBlock≠some g) /\
   some a∉X'/\e.ownBlock≠some a/\(∀ b∈rs,EO b≠some a)/\EO d≠some a/\base<=a
def DV1(w:World)(X:List (Option Nat))(p c k D:Nat)(S S0:St)(root:Nat)(T:Nd×List (List Nd))(key:Ky)(a:Ending)(w':World):Prop :=
 ∃ A x B ups rs X' v,BP S.G 0 root (A++x :: B) []/\FI S.G 0 root A x B ups/\At key A x B/\ups.length=D/\N9 A x B [] ups=T/\a = .returned v /\
   PT w' X' p S S0 c (k+D+1)/\Turn X X' w w'/\Nq w' X' w.heap.size v (Ig ups++[E8 key B x]) rs
def IZ1 (n m c:Nat) (A:Option Addr) (a:List It) (w:World) {U V:List It} {it:It} (e:a=U++it :: V) (h:SS w A m ((a.drop 1).map Af)) (f:IU a) (g:it.r.length=4) (j:m<=1000000) :
 Calls Tryz.prog 132 #[OV n 2 (Gi (a.headD ⟨[],[]⟩).r) (.slice A m c),.int .i64 (U.length:Nat)] w λe w'=>e = .returned (.int .i64 (Gi it.r))/\Below w.heap.size w w':=by
 cases U with
 | nil =>
   rw[e];exact SR0 n 2 (Gi it.r) _ w
 | cons u U =>
   have b:a.drop 1=U++it :: V:=by rw[e];rfl
   have k:U.length<(a.drop 1).length:=by rw[b];simp
   have d:(a.drop 1)[U.length]=it:=by simp[b]
   have:=AI1 n 2 (Gi (a.headD ⟨[],[]⟩).r) m c A (a.drop 1) w h U.length k (λi l=>f i (JV l)) (by rw[d];exact g) j;rw[d]at this;exact this
def oK:∀ cs:List ByteArray,4*cs.length<=Ce cs
 | []=>BR _
 | c :: cs=>by
   have:=oK cs;unfold Ce at this ⊢;simp only[DW,PW,DF];omega
def Yq{p:Pg}(h:Xu p):p.2.2.length<=253:=by have:=h.2.2.2;have:=oK p.2.2;omega
def Qr(n l:Nat)(v:Value)(w:World):Calls Tryz.prog 130 #[.agg #[.int .i64 n,.int .i64 2,.int .i64 l,v]] w λe w'=>e = .returned (.bool false)/\Below w.heap.size w w':=jR n 2 l v w
def Pz(n l:Nat)(v:Value)(w:World):Calls Tryz.prog 130 #[.agg #[.int .i64 n,.int .i64 1,.int .i64 l,v]] w λe w'=>e = .returned (.bool true)/\Below w.heap.size w w':=jR n 1 l v w
def ZX0 (n l m c:Nat) (A:Option Addr) (a:List It) (key:Ky) (w:World) (h:SS w A m (a.map Af)) (b:IU a) (d:NI a) (f:m<=1000000) :
 Calls Tryz.prog 131 #[.agg #[.int .i64 n,.int .i64 2,.int .i64 l,.slice A m c],.string (AQ key),.bool true] w λe w'=>e = .returned (.int .i64 (cnt key true a))/\Below w.heap.size w w':=jF n 2 l m c A a key true w h b d f
def wP (n l m c:Nat) (A:Option Addr) (a:List It) (key:Ky) (w:World) (h:SS w A m (a.map Af)) (b:IU a) (d:NI a) (f:m<=1000000) :
 Calls Tryz.prog 131 #[.agg #[.int .i64 n,.int .i64 1,.int .i64 l,.slice A m c],.string (AQ key),.bool false] w λe w'=>e = .returned (.int .i64 (cnt key false a))/\Below w.heap.size w w':=jF n 1 l m c A a key false w h b d f
def Wq (n m c:Nat) (A:Option Addr) (a:List It) (w:World) {U V:List It} {it:It} (e:a=U++it :: V) (h:SS w A m ((a.drop 1).map Af)) (b:IU a) (d:it.r.length=4) (f:m<=1000000) :
 Calls Tryz.prog 132 #[.agg #[.int .i64 n,.int .i64 2,.int .i64 (Gi (a.headD ⟨[],[]⟩).r),.slice A m c],.int .i64 (U.length:Nat)] w λe w'=>e = .returned (.int .i64 (Gi it.r))/\Below w.heap.size w w':=IZ1 n m c A a w e h b d f
def Su {w:World} {X:List (Option Nat)} {tb p root c k:Nat} {S S0:St} {o:Nd} {f:List (List Nd)} (h:PT w X p S S0 c k) (T:TM w X tb p root) (hc:c<=60000) (hk:k<=800000000) (tr:NH S.G root o f) (az:∀ n,n<S.q->Xu (S.G n)) (ay:∀ n∈Gl [o] f,0<n/\n<S.q) (hq:S.q<=65536) (hD:f.length<=60) (key:Ky) :
 Calls Tryz.prog 49 #[.pointer (some ⟨tb,0,none⟩),.string (AQ key)] w (DV1 w X p c k f.length S S0 root (o,f) key):=by
 have HT:=Ac T;have bp:=Ac az;have t1:=T.has.cells2.2;have tz:=T.has.lt;obtain⟨a0,ah,bq⟩:=tr;have hr:=ay root (by rw[<- ah];exact Cm AZ _);have ai:=BP.page (A:=[]) (B:=[]) (x:=o) a0 (by omega);rw[ah]at ai
 have br:(S.G root).1=1\/(S.G root).1=2:=by rw[ai];cases f <;> simp[BM,FX]
 have LD:=Ac (Jg h T hc (by omega) hr.2 (az root hr.2) br);rw[ai]at LD;obtain⟨K,hK⟩:∃ K,AQ key=K:=⟨_,rfl⟩;have bs:=Ac a0;have a1:=Ac ah;have a2:=Ac bq;have cc:=Ac ay;have a3:=Ac hD;rw[hK];have bt:=Ac hK;have bu:=Ac (AV hc hk);have bv:=Ac tz;clear h T az a0 ah bq ai br ay hD hK hc hk;go_enter Tryz.func49,Tryz.ntmps49
 go_wp2_with (first
  |(go_at_call 62;refine LD.mono ?_;rintro en w1 ⟨sl,cp,X1,rfl,bw,bx,bz,b0⟩;have a4:=Ac bw;have aj:=Ac bx;have a5:=Ac bz;have b1:=Ac b0;clear bw bx bz b0))
 have B2:=Ag w1 (.cells #[.int .i64 root,.int .i64 (BM f.isEmpty [] o).1,.int .i64 (BM f.isEmpty [] o).2.1,.slice sl (BM f.isEmpty [] o).2.2.length cp] 116);have X2:=Has.new w1 116 #[.int .i64 root,.int .i64 (BM f.isEmpty [] o).1,.int .i64 (BM f.isEmpty [] o).2.1,.slice sl (BM f.isEmpty [] o).2.2.length cp];generalize (w1.alloc (.cells #[.int .i64 root,.int .i64 (BM f.isEmpty [] o).1,.int .i64 (BM f.isEmpty [] o).2.1,.slice sl (BM f.isEmpty [] o).2.2.length cp] 116))=W at *
 obtain⟨z,a6⟩:∃ z,w1.heap.size=z:=⟨_,rfl⟩
 have zx:w.heap.size<=z:=by have:=aj.size;omega
 have ZX:=Ac zx
 have bn:Hid (sS w X p tb root c k f.length w.heap.size z S S0 (o,f) key (.slice none 0 0) W):=Ac (by
  have cd:=a4.lt;refine⟨[],o,[],[],f,[],X1,(sl,cp),bs,⟨rfl,rfl,a1,a2⟩,⟨by rw[a2.out];exact ZE _,λb C=>by cases C⟩,by simp,rfl,a4.below B2,aj.next B2,(HT.turn aj).below B2,⟨⟨rfl,.inl ⟨rfl,rfl⟩⟩,Pe.nil _ _ _,(λg j=>by cases j),(λa ha=>by cases ha)⟩, ?_,own_below a5 B2, ?_, ?_,(by intro h;cases h),(λb C=>by cases C), ?_,zx⟩
  ·rw[a1.out,<- a6];exact X2
  ·exact λg j=>⟨b1 g (by rw[<- j];exact(Ii ⟨0,BM f.isEmpty [] o,0⟩ (sl,cp))),(λb C=>by cases C),(by intro h;cases h)⟩
  ·intro N;have:=cd _ N;omega
  ·intro e;have:=(a5.lt z (by rw[<- e];exact(Ii ⟨0,BM f.isEmpty [] o,0⟩ (sl,cp)))).2
   omega)
 rw[a6];clear B2 X2 HT a4 aj a5 b1 bs a1 a2 a6 t1 tz LD
 go_loopw [5] (λv5 wr=>sS w X p tb root c k f.length w.heap.size z S S0 (o,f) key v5 wr) (λv5 _=>f.length-lenOf v5)
 case atStart=>exact bn
 case round =>
  clear bn;obtain⟨A,x,B,ups,Ds,rs,X',d,J,g2,g3,g4,g5,g6,g7,g8,g9,ak,ad,al,am,an,ao,ap,ct⟩:=hrel
  have aq:∀ n∈Gl (A++x :: B) Ds,0<n/\n<S.q:=λn hn=>cc n (by
   have:=UL (x:=x) (Ds:=Ds) g2;rw[g5]at this
   exact this.mem_iff.2 (BL _ hn))
  have a7:=aq x.n (Cm (by simp) Ds)
  have a8:x.n≠0:=by omega
  have a9:=J.page a8;have wl:=J.well;have ord:=(BP.ord J).2 x (by simp);have ab:=Yq (bp x.n a7.2);rw[a9]at ab
  cases Ds with
  | nil =>
    have ax:x.its.length<=253:=by
     have Y:(x.its.map Af).length<=253:=ab;rw[BZ]at Y;exact Y
    have H:=Ac (λW (h:SS W d.1 x.its.length (x.its.map Af))=>wP x.n (hdN B 0) x.its.length d.2 d.1 x.its key W h wl ord.1 (by omega));have Z:=Ac (λW=>Pz x.n (hdN B 0) (.slice d.1 x.its.length d.2) W);rw[bt.out]at H
    have E:=Ac (show Has wr z 116 #[.int .i64 x.n,.int .i64 1,.int .i64 (hdN B 0:Nat),.slice d.1 x.its.length d.2]from by
     have h1:=ak
     have e:(JF ⟨x.n,BM ([]:List (List Nd)).isEmpty B x,0⟩ d) = .slice d.1 x.its.length d.2:=by
      show Value.slice d.1 (x.its.map Af).length d.2=_;rw[BZ]
     rw[e]at h1
     exact h1)
    obtain⟨c0,v,t,u⟩:=E.cells4;have D:=E.lt;have G1:=Ac J;have G2:=Ac g2;have G3:=Ac g3;have G4:=Ac g4;have G5:=Ac g5;have G6:=Ac g6;have G7:=Ac g7;have F:=Ac g9;have P:=Ac ad;have ar:=Ac al;have Q:=Ac (AV am (AV an (AV ao ap)))
    have PL:(Ig ups).length<=60:=by rw[Ci];have:=a3.out;omega
    obtain⟨cn,ba⟩:∃ cn,cnt key false x.its=cn:=⟨_,rfl⟩;have ch:=Ac ba;rw[ba]at H;obtain⟨L,hL⟩:∃ L,hdN B 0=L:=⟨_,rfl⟩;have HL:=Ac hL;rw[hL]at H Z E t;obtain⟨m,N⟩:∃ m,x.its.length=m:=⟨_,rfl⟩;have HM:=Ac N;rw[N]at H Z E u;clear J g2 g3 g4 g5 g6 g7 g8 g9 ak ad al am an ao ap aq a7 a8 a9 wl ord ab ax ba hL N;obtain⟨i0,bb,bc,bd,be⟩:=IP pV
    have au:=Ac (λW (h:W.ownsRow w.heap.size 9 1 (JF ⟨x.n,BM ([]:List (List Nd)).isEmpty B x,0⟩ d) (BM ([]:List (List Nd)).isEmpty B x).2.2.length (strs (BM ([]:List (List Nd)).isEmpty B x).2.2))=>(show SS W d.1 m (x.its.map Af)from by
     have:=SS.Ed h;have e:(BM ([]:List (List Nd)).isEmpty B x).2.2=x.its.map Af:=rfl
     rw[e,BZ,HM.out]at this;exact this))
    have bf:=Ac (show [Value.int .i64 x.n,.int .i64 1,.int .i64 L,.slice d.1 m d.2,.int .i64 cn]=JE (E8 key B x) d from by
     rw[<- HL.out,<- HM.out,<- ch.out];unfold JE JF E8 TR
     simp)
    go_wp2_with (first
     |(go_at_call 130;refine(Z _).mono ?_;rintro en w1 ⟨rfl,R⟩;have x1:=Ac (E.Ai R);have M:=Ac R;clear c0 v t u D R;obtain⟨c0,v,t,u⟩:=x1.cells4;have D:=x1.lt))
    go_region_law
     (first
       |(go_simp;go_at_call 131;refine(H _ (au _ (own_below (own_below P M) ((AU _ _).drew)))).mono ?_;rintro en w2 ⟨rfl,hb2⟩;have l:=Ac ((Ap M ((AU _ _).drew) M.size).trans (hb2.mono M.size));have ci:=l.size;have x2:=Ac (E.Ai l);clear c0 v t u D hb2;obtain⟨c0,v,t,u⟩:=x2.cells4;have D:=x2.lt)
       |(refine step_append_lies _ (by rfl) _ _ _ (by rfl) w.heap.size 122 i0 _ 5 56 Tryz.underlying118 bb bc bd be rfl (by omega) u5 (Ig ups).length (I4 (Ig ups) rs) (by rfl) ((own_below F.own l).alloc _) _ 1 1 [.int .i64 x.n,.int .i64 1,.int .i64 L,.slice d.1 m d.2,.int .i64 cn] (by rfl) (by rfl) (JQ (I8 _ _)) (by simp[Value.oneCell']) (by omega) (by simp only[maxLen];omega) (by omega) (by simp;omega) _ rfl ?_;intro gg cap w3 aa O ac ce;have bg:=Ac aa;have I:=Ac O;have av:=Ac ac;clear aa O ac))
    all_goals
     go_wp2_with fail
     have zX:=G6.lt;have z2:=l.size;have PA:=(F.below l).below (Ag w2 (.cells #[.int .i64 x.n,.int .i64 1,.int .i64 L,.slice d.1 m d.2,.int .i64 cn] 122));have P3:=PA.snoc (s:=E8 key B x) (a:=d) (by have:=bg.out;rw[bf.out]at this;exact this) I av (λi hi=>by have:=zX i hi;simp only[ED];omega) (own_below (own_below P l) (Ag _ _)) ar
     have hD:ups.length=f.length:=by have:=G4.out;simpa using this
     have bh:=((G6.below l).below (Ag w2 (.cells #[.int .i64 x.n,.int .i64 1,.int .i64 L,.slice d.1 m d.2,.int .i64 cn] 122))).grown I (λg j=>F.out.out g j);have b2:=((G7.next l).next (Ag w2 (.cells #[.int .i64 x.n,.int .i64 1,.int .i64 L,.slice d.1 m d.2,.int .i64 cn] 122))).Yc I (λg j=>(F.own.lt g j).1);rw[hD]at bh;have cj:=Ac (show DV1 w X p c k f.length S S0 root (o,f) key (.returned (.slice (some ⟨gg,0,none⟩) ((Ig ups).length+1) cap)) w3 from⟨A,x,B,ups,rs++[d],X',_,G1,G2,G3,hD,G5,rfl,bh,b2,P3⟩);clear PA P3 bh b2;go_ret;exact cj
  | cons D1 r =>
    obtain⟨U,it,V,e1,e2,A',y,B',e3,e4,e5,e6,e7⟩:=JJ1 J g2 g3
    have ax:(x.its.drop 1).length<=253:=by
     have Y:((x.its.drop 1).map Af).length<=253:=ab;rw[BZ]at Y;exact Y
    have bo:=J.kids (by simp) it (by rw[e1];simp);have bi:=aq y.n (BC _ (by rw[e3];exact Cm (by simp) r))
    have b3:Gi it.r=y.n:=by rw[e4];exact Ha (by omega)
    have bj:=e5.page (by omega)
    have ck:SS wr d.1 (x.its.drop 1).length ((x.its.drop 1).map Af):=by
     have:=SS.Ed ad;have e:(BM (D1 :: r).isEmpty B x).2.2=(x.its.drop 1).map Af:=rfl;rw[e,BZ]at this;exact this
    have H:=Ac (λW (h:SS W d.1 (x.its.drop 1).length ((x.its.drop 1).map Af))=>ZX0 x.n (Gi (x.its.headD ⟨[],[]⟩).r) (x.its.drop 1).length d.2 d.1 (x.its.drop 1) key W h (λi hi=>wl i (JV hi)) (ord.1.sublist (dK _ _)) (by omega));have KD:=Ac (λW (h:SS W d.1 (x.its.drop 1).length ((x.its.drop 1).map Af))=>Wq x.n (x.its.drop 1).length d.2 d.1 x.its W e1 h wl bo (by omega));have Z:=Ac (λW=>Qr x.n (Gi (x.its.headD ⟨[],[]⟩).r) (.slice d.1 (x.its.drop 1).length d.2) W);have LY:=Ac (λW (h:PT W X' p S S0 c (k+ups.length+1)) (T:TM W X' tb p root)=>Jg (n:=y.n) h T bu.1 (by have:=bu.2;have:=a3.out;omega) bi.2 (bp _ bi.2) (by rw[bj];cases r <;> simp[BM,FX]))
    rw[bj]at LY;rw[<- e2,bt.out]at H;rw[b3]at KD
    have E:=Ac (show Has wr z 116 #[.int .i64 x.n,.int .i64 2,.int .i64 (Gi (x.its.headD ⟨[],[]⟩).r),.slice d.1 (x.its.drop 1).length d.2]from by
     have h1:=ak
     have e:(JF ⟨x.n,BM (D1 :: r).isEmpty B x,0⟩ d) = .slice d.1 (x.its.drop 1).length d.2:=by
      show Value.slice d.1 ((x.its.drop 1).map Af).length d.2=_;rw[BZ]
     rw[e]at h1
     exact h1)
    obtain⟨c0,v,t,u⟩:=E.cells4;have D:=E.lt;have E3:=Ac e3;have E5:=Ac e5;have E6:=Ac e6;have E7:=Ac e7;have G1:=Ac J;have G4:=Ac g4;have G5:=Ac g5;have G6:=Ac g6;have G7:=Ac g7;have G8:=Ac g8;have F:=Ac g9;have P:=Ac ad;have ar:=Ac al;have Q:=Ac (AV am (AV an (AV ao ap)))
    have PL:(Ig ups).length<=60:=by rw[Ci];have:=a3.out;omega
    clear e1 e2 e3 e4 e5 e6 e7 J g2 g3 g4 g5 g6 g7 g8 g9 ak ad al am an ao ap aq a7 a8 a9 wl ord ab ax bo bi b3 bj;have cl:Hid (Gi (x.its.headD ⟨[],[]⟩).r=Gi (x.its.headD ⟨[],[]⟩).r):=Ac rfl;generalize hL:Gi (x.its.headD ⟨[],[]⟩).r=L at H KD Z E c0 v t u;generalize N:(x.its.drop 1).length=m at H KD Z E c0 v t u ck;have HL:=Ac hL;have HM:=Ac N;clear hL N cl;obtain⟨i0,bb,bc,bd,be⟩:=IP pV
    have au:=Ac (λW (h:W.ownsRow w.heap.size 9 1 (JF ⟨x.n,BM (D1 :: r).isEmpty B x,0⟩ d) (BM (D1 :: r).isEmpty B x).2.2.length (strs (BM (D1 :: r).isEmpty B x).2.2))=>(show SS W d.1 m ((x.its.drop 1).map Af)from by
     have:=SS.Ed h;have e:(BM (D1 :: r).isEmpty B x).2.2=(x.its.drop 1).map Af:=rfl
     rw[e,BZ,HM.out]at this;exact this))
    have bf:=Ac (show [Value.int .i64 x.n,.int .i64 2,.int .i64 L,.slice d.1 m d.2,.int .i64 (U.length:Nat)]=JE (NG ⟨A,x,U,V,B⟩) d from by
     rw[<- HL.out,<- HM.out];unfold JE NG JF FX
     simp)
    have BX:=Ac (show some z≠u5.ownBlock from λe=>Q.2.1 e.symm);have zb:=G7.size
    go_wp2_with (first
     |(go_at_call 130;refine(Z _).mono ?_;rintro en w1 ⟨rfl,R⟩;have x1:=Ac (E.Ai R);have M:=Ac R;clear c0 v t u D R;obtain⟨c0,v,t,u⟩:=x1.cells4;have D:=x1.lt)
     |(go_at_call 131;refine(H _ (au _ (own_below P M))).mono ?_;rintro en w2 ⟨rfl,hb2⟩;have x2:=Ac (x1.Ai hb2);have l:=Ac (Ap M hb2 M.size);clear c0 v t u D hb2;have ci:=l.size;obtain⟨c0,v,t,u⟩:=x2.cells4;have D:=x2.lt)
     |(at_builtin;refine wpList_append_lies _ rfl (.tmp 20) (.tmp 24) 118 rfl w.heap.size 122 i0 _ 5 56 Tryz.underlying118 bb bc bd be rfl (by omega) u5 (Ig ups).length (I4 (Ig ups) rs) rfl ((own_below F.own l).alloc _) _ 1 1 [.int .i64 x.n,.int .i64 2,.int .i64 L,.slice d.1 m d.2,.int .i64 (U.length:Nat)] rfl rfl (JQ (I8 _ _)) (by simp[Value.oneCell']) (by omega) (by simp only[maxLen];omega) (by omega) (by simp;omega) _ rfl ?_;intro gg cap w3 aa O ac ce;have bg:=Ac aa;have I:=Ac O;have av:=Ac ac;have x3:=Ac ((x2.alloc (.cells #[.int .i64 x.n,.int .i64 2,.int .i64 L,.slice d.1 m d.2,.int .i64 (U.length:Nat)] 122)).grown O BX);have cg:=Ac (Bo (w':=w3) ((own_below P l).alloc _) (λg j=>O.block g (by have:=(((own_below P l).alloc (.cells #[.int .i64 x.n,.int .i64 2,.int .i64 L,.slice d.1 m d.2,.int .i64 (U.length:Nat)] 122)).lt g j).2;exact this) (λe=>by rw[Ii]at j;exact(ar g j).2.2 e.symm)));clear aa O ac c0 v t u D;obtain⟨c0,v,t,u⟩:=x3.cells4;have D:=x3.lt)
     |(go_at_call 132;refine(KD _ (au _ cg)).mono ?_;rintro en w4 ⟨rfl,ae⟩;have bk:=Ac ae;have x4:=Ac (x3.Ai ae);have cm:=Ac ((((G6.below l).below (Ag _ _)).grown I (λg j=>F.out.out g j)).below ae);have b4:=Ac ((((G8.below l).below (Ag _ _)).grown I (λe=>by have:=(F.own.lt tb e.symm).1;have:=bv.out;omega)).below ae);clear ae)
     |(go_at_call 62;refine(LY _ cm b4).mono ?_;rintro en w5 ⟨af,ag,X5,rfl,b5,bl,b6,b7⟩;have co:=Ac b5;have aw:=Ac bl;have b8:=Ac b6;have cq:=Ac b7;have x5:=Ac (bl.has x4 Q.1);clear b5 bl b6 b7 c0 v t u D;obtain⟨c0,v,t,u⟩:=x5.cells4;have D:=x5.lt;have cf:=x5.frozen))
    have z4:=bk.size;have z3:=I.size;have z2:=l.size;have cu:=x2.lt;have cv:=x3.lt;have cr:=x4.lt;have zX:=G6.lt;simp only[ED]at z3;have b9:some z∉X5:=aw.out.out Q.1 cr;have PA:=(F.below l).below (Ag w2 (.cells #[.int .i64 x.n,.int .i64 2,.int .i64 L,.slice d.1 m d.2,.int .i64 (U.length:Nat)] 122));have P3:=PA.snoc (s:=NG ⟨A,x,U,V,B⟩) (a:=d) (by have:=bg.out;rw[bf.out]at this;exact this) I av (λi hi=>by have:=zX i hi;simp only[ED];omega) (own_below (own_below P l) (Ag _ _)) ar;have P5:=(P3.below bk).turn aw
    have ca:gg≠z:=by
     rcases av with e | e
     ·rintro rfl;exact Q.2.1 e
     ·simp only[ED]at e;omega
    have cb:∀ b∈rs++[d],EO b≠some z:=λb C=>by
     rcases BO.1 C with C | C
     ·exact Q.2.2.1 b C
     ·rw[BH.1 C];exact Q.2.2.2
    have bm:∀ g,EO (af,ag)=some g->w4.heap.size<=g:=λg j=>(b8.lt g (by rw[<- j];exact Ii ⟨y.n,BM r.isEmpty B' y,0⟩ (af,ag))).1
    go_roundw
    case rel =>
     refine⟨A',y,B',⟨A,x,U,V,B⟩ :: ups,r,rs++[d],X5,(af,ag),E5,E6,E7, ?_, ?_,co.FU b9, ?_, ?_, ?_,x5.FU, ?_, ?_,b9, ?_,cb, ?_,ZX⟩
     ·have:=G4.out;simp only[DF]at this ⊢;omega
     ·rw[<- G5.out,E3.out];rfl
     ·exact(((((G7.next l).next (Ag _ _)).Yc I (λg j=>(F.own.lt g j).1)).next bk).trans aw).UM ZX
     ·exact(b4.turn aw).FU (by have:=bv.out;have:=ZX.out;omega)
     ·rw [yE];exact P5.FU (λe=>ca (CV e)) cb
     ·exact Py (own_base b8 (by have:=G7.size;omega)) (λe=>by have:=bm z (by rw[<- e];exact(Ii ⟨y.n,BM r.isEmpty B' y,0⟩ (af,ag)).symm);omega)
     ·intro g j;have h1:=bm g j;refine⟨cq g (by rw[<- j];exact Ii ⟨y.n,BM r.isEmpty B' y,0⟩ (af,ag)),λb C e=>?_,λe=>?_⟩
      ·have:=(P3.rows.lt b C g e).2;omega
      ·have:=(P3.own.lt g e).2;omega
     ·exact λe=>ca (CV e)
     ·intro e;have:=bm z e;omega
    case measure =>
     have h1:=DW1 F.own;have Y:=G4.out;have h3:=Ci ups;simp only[DF]at Y;show f.length-((Ig ups).length+1)<f.length-lenOf u5;omega
def Wp:Go.Shelf.Ren:=⟨fun | 22=>53 | 17=>215 | 29=>139 | 30=>140 | 36=>197 | n=>n,fun | 24=>44 | 9=>9 | 3=>3 | 4=>4 | 0=>0 | n=>n,fun | n=>n⟩
def WC:Go.Proofs.Lays2.n22 Tryz.prog Wp:={
 mixed:=by kernel_rfl
 f17:=Tryz.func215.trans (D8 some (by kernel_rfl))
 f22:=Tryz.func53.trans (D8 some (by kernel_rfl))
 f29:=Tryz.func139.trans (D8 some (by kernel_rfl))
 f30:=Tryz.func140.trans (D8 some (by kernel_rfl))
 f36:=Tryz.func197.trans (D8 some (by kernel_rfl))
 t0:=Tryz.underlying0
 a0:=Tryz.isAgg0
 z0:=Tryz.sizeOf0
 v0:=Tryz.zeroValue0
 t3:=IB
 a3:=Tryz.isAgg3
 z3:=Tryz.sizeOf3
 v3:=Tryz.zeroValue3
 t4:=Tryz.underlying4
 a4:=Tryz.isAgg4
 z4:=Tryz.sizeOf4
 v4:=Tryz.zeroValue4
 t9:=VD
 a9:=Tryz.isAgg9
 z9:=Tryz.sizeOf9
 v9:=Tryz.zeroValue9
 t24:=QT
 a24:=Tryz.isAgg44
 z24:=Tryz.sizeOf44
 v24:=Tryz.zeroValue44
 i9:=by kernel_rfl }
def QN (a:Array Value):Nat->List Value->Array Value
 | _,[]=>a
 | o,v :: r=>QN (a.setIfInBounds o v) (o+1) r
def Lt:∀ (b:List Value) (o:Nat) (a:Array Value),(QN a o b).size=a.size
 | [],_,_=>rfl
 | v :: r,o,a=>by rw[QN,Lt];simp
def Vd:∀ (c:List Value) (o:Nat) (a:Array Value) (j:Nat),(QN a o c)[j]? = if o<=j/\j<o+c.length/\j<a.size then c[j-o]? else a[j]?
 | [],o,a,j=>by
   rw[QN,AO];rintro⟨f,d,_⟩;simp at d;omega
 | v :: r,o,a,j=>by
   rw[QN,Vd r (o+1) _ j];simp only[DF,Array.size_setIfInBounds];by_cases h:o+1<=j/\j<o+1+r.length/\j<a.size
   ·rw [AC h,AC ⟨by omega,by omega,h.2.2⟩];rw[show j-o=(j-(o+1))+1 by omega,nI]
   ·rw [AO h,NF];by_cases e:o=j
    ·subst e;rw[AC rfl];by_cases b:o<a.size
     ·rw[AC b,AC ⟨AY _,by omega,b⟩];simp
     ·rw[AO b,AO (λh=>b h.2.2),nV (by omega)]
    ·rw[AO e,AO (λd=>h ⟨by omega,by omega,d.2.2⟩)]
def Ir {g:Nat} {t:TypeId}:∀ (b:List Value) (o:Nat) (w:World) (a:Array Value),Has w g t a->Has (w.setCells g o b) g t (QN a o b)
 | [],_,_,_,h=>h
 | v :: r,o,w,a,h=>Ir r (o+1) _ _ (h.set o v)
def Iy {g:Nat}:∀ (a:List Value) (o:Nat) (w:World) (r:Option Nat),r=some g->w.grownBy (w.setCells g o a) r
 | [],_,w,_,_=>⟨rfl,rfl,rfl,AY _,λ_ _ _=>rfl⟩
 | v :: a,o,w,r,h=>by
   have:=Iy a (o+1) (w.setCell ⟨g,o,none⟩ v) r h;refine⟨this.os,this.tape,this.output,by have:=this.size;simpa[World.setCells]using this,λk c b=>?_⟩;exact(this.block k (by simpa using c) b).trans (CX _ _ _ _ (λe=>b (by rw[h];exact D8 some e)))
def Yv{w w1 w2:World}{r:Option Nat}(h:w.grownBy w1 r)(k:w1.grownBy w2 r):w.grownBy w2 r :=
 ⟨k.os.trans h.os,k.tape.trans h.tape,k.output.trans h.output,BN h.size k.size,λi a b=>(k.block i (DD a h.size) b).trans (h.block i a b)⟩
def grown_drew(w:World)(r:Option Nat):w.grownBy w.drew r:=⟨rfl,rfl,rfl,AY _,λ_ _ _=>rfl⟩
def row_of{w:World}{g cap n base:Nat}{a:Array Value}{xs:List Value}(h:Has w g 9 a)(c:base<=g)(i:a.size=cap)(d:n<=cap)(e:cap<=maxLen)(k:xs.length=n)(f:∀ j,j<n->a[j]? = xs[j]?):w.ownsRow base 9 1 (.slice (some ⟨g,0,none⟩) n cap) n xs:=by
 refine⟨by omega,.inr ⟨g,cap,a,rfl,c,h,d,e,by omega, ?_⟩⟩;refine JC λj=>?_;rw[Nat.mul_one,GZ];by_cases b:j<n
 ·rw[AC b,nU];exact f j b
 ·rw[AO b,MH (by omega)]
def fQ(w:World)(base:Nat)(v:Value)(n:Nat)(xs:List ByteArray)(a:Ending)(w':World):Prop :=
 ∃ v',a = .returned v'/\w'.ownsRow base 9 1 v' n (strs xs)/\w.grownBy w' v.ownBlock/\(v'.ownBlock=v.ownBlock\/v'.ownBlock=some w.heap.size)
def gZ(l:List ByteArray):∀ u∈strs l,u.oneCell'=true:=λu a=>by
 obtain⟨s,_,rfl⟩:=DI.1 a;rfl
def Gg(l:List ByteArray):(strs l).length=l.length:=by simp[strs]
def fP{l:List ByteArray}{i:Nat}(c:ByteArray)(a:i<=l.length):(strs (l.take i++c :: l.drop i)).length=l.length+1:=by
 rw[Gg];simp;omega
def ZN{l:List ByteArray}{i:Nat}(c:ByteArray)(b:i<=l.length)(j:Nat):(strs (l.take i++c :: l.drop i))[j]? = if j<i then(strs l)[j]? else if j=i then some (.string c)else(strs l)[j-1]? := by
 unfold strs;rw[D9,DW];by_cases h:j<i
 ·rw [AC h,G9 (by simp;omega)];simp[GZ,h]
 ·rw [AO h,GU (by simp;omega)]
  have e:(List.map Value.string (l.take i)).length=i:=by simp;omega
  rw[e];by_cases a:j=i
  ·rw[AC a,a,I9];rfl
  ·rw [AO a,show j-i=(j-i-1)+1 by omega,nI];simp only[GH,IX]
   congr 2;omega
def BM0 {w:World} {base n i m:Nat} {v:Value} {l:List ByteArray} {c:ByteArray} (h:w.ownsRow base 9 1 v n (strs l)) (hi:i<=n) (F:Has w m 9 #[.string c]) (U:v.ownBlock≠some m) (aa:n<=1000000) (Z:base<=w.heap.size) :
 Calls Tryz.prog 53 #[v,.int .i64 i,.slice (some ⟨m,0,none⟩) 1 1] w (fQ w base v (n+1) (l.take i++c :: l.drop i)):=by
 have z:l.length=n:=by have:=h.1;rw[Gg]at this;omega
 have x:∀ j u,[Value.string c][j]? = some u->w.cell? ⟨m,0+j,none⟩=some u:=λj u p=>by
  rw[FM,F.cell];simpa using p
 have y:∀ u∈[Value.string c],u.oneCell'=true:=λu p=>by rw[BH.1 p];rfl
 have f:(strs l).length=n:=by rw[Gg,z]
 have q:i<=l.length:=by omega
 have fresh:∀(W:World) (cap:Nat) (xs:Array Value),w.grownBy W v.ownBlock->Has W w.heap.size 9 xs->xs.size=cap->n+1<=cap->cap<=maxLen->(∀ j,j<n+1->xs[j]? = (strs (l.take i++c :: l.drop i))[j]?)->fQ w base v (n+1) (l.take i++c :: l.drop i) (.returned (.slice (some ⟨w.heap.size,0,none⟩) (n+1) cap)) W:=λW cap xs hW hx hs N hm b =>
  ⟨_,rfl,row_of hx Z hs N hm (by rw[fP c q,z]) b,hW,.inr rfl⟩
 have V:n+1<=maxLen:=by unfold maxLen;omega
 rcases h.2 with⟨rfl,rfl⟩ |⟨g,cap,I,rfl,O,hg,P,J,ab,T⟩
 ·obtain rfl:i=0:=by omega
  have l0:l=[]:=TE.1 z;subst l0;refine(Any2.slices_Insert_string_end_grow WC none 0 0 m 0 1 1 [] [.string c] w (by omega) (by omega) (by omega) (by omega) rfl rfl (λ_=>rfl) (λa e=>by cases e) x y).mono ?_;rintro e w' ⟨rfl,rfl⟩;have X:=grownCap_ge w (0+1) 0 (Wp.t 9);have E:=lU w (0+1) 0 (Wp.t 9) (by omega);refine fresh _ _ _ ⟨rfl,rfl,rfl,by simp,λk o _=>heap_alloc_old w.drew _ o⟩ (I8 w.drew _) ?_ (by omega) E (λj b=>?_)
  ·simp only [dQ,VJ,bM];show 1+_*1=_;omega
  ·obtain rfl:j=0:=by omega
   rw[nY (by simp)];rfl
 ·have H:Has w g 9 I:=hg
  have K:I.size=cap:=by omega
  have G:∀ j,j<n->I[j]? = (strs l)[j]? := λj b=>by
   rw[<- T,Nat.mul_one,GZ,AC b,nU]
  have L:∀ j u,(strs l)[j]? = some u->w.cell? ⟨g,0+j,none⟩=some u:=λj u p=>by
   have b:j<n:=by have:=(C9.1 p).1;omega
   rw[FM,H.cell,G j b,p]
  have Y:m≠g:=λe=>U (by rw[e];rfl)
  have Q:cap<=9223372036854775807:=by unfold maxLen at J;omega
  by_cases D:n+1<=cap
  ·by_cases M:i<n
   ·refine (Any2.slices_Insert_string_shift WC g 0 n cap i m 0 1 1 (strs l) [.string c] w M (by omega) D Q Y f rfl L (λj b=>?_) (λj b=>H.frozen _) x (gZ l) y 9 9 1 cap ?_ ?_ (by omega) (F.frozen _) (F.frozen _)).mono ?_
    ·rw [FM,H.cell];simp;omega
    ·unfold World.shape?;rw[show w.heap[m]? = _ from F];rfl
    ·unfold World.shape?;rw[show w.heap[g]? = _ from H];simp[K]
    rintro e w' ⟨rfl,rfl⟩;have A:=Ir [.string c] (0+i) _ _ (Ir ((strs l).drop i) (0+(i+1)) _ _ H.drew);refine⟨_,rfl,row_of A O (by rw[Lt,Lt,K]) D J (by rw[fP c q,z]) (λj b=>?_),Yv (grown_drew w _) (Yv (Iy _ _ _ _ rfl) (Iy _ _ _ _ rfl)),.inl rfl⟩;rw[Vd,Vd,ZN c q,Lt,DJ,f];simp only[JB,FM];by_cases d:j<i
    ·rw[AO (by omega),AO (by omega),AC d,G j (by omega)]
    ·rw [AO d];by_cases B:j=i
     ·subst B;rw[AC (by omega),AC rfl,I9];rfl
     ·rw [AO (by omega),AO B,AC (by omega),IX]
      congr 1;omega
   ·obtain rfl:i=n:=by omega
    refine(Any2.slices_Insert_string_end_room WC g 0 i cap m 0 1 1 [.string c] w (by omega) D Q rfl (λj b=>?_) (λj b=>H.frozen _) x y).mono ?_
    ·rw[H.cell];simp;omega
    rintro e w' ⟨rfl,rfl⟩;have A:=Ir [.string c] (0+i) _ _ H;refine⟨_,rfl,row_of A O (by rw[Lt,K]) D J (by rw[fP c q,z]) (λj b=>?_),Iy _ _ _ _ rfl,.inl rfl⟩;rw[Vd,ZN c q];simp only[JB,FM];by_cases d:j<i
    ·rw[AO (by omega),AC d,G j (by omega)]
    ·obtain rfl:j=i:=by omega
     rw[AC (by omega),AO d,AC rfl,I9];rfl
  ·have X:=grownCap_ge w (n+1) cap (Wp.t 9);have E:=lU w (n+1) cap (Wp.t 9) V;by_cases M:i<n
   ·refine (Any2.slices_Insert_string_grow WC g 0 n cap i m 0 1 1 (strs l) [.string c] w M (by omega) P (by omega) (by omega) f rfl L x (gZ l) y).mono ?_;rintro e w' ⟨rfl,rfl⟩;have HA:=Has.new w 9 (((strs l).take i).toArray++Builtin.zeroCells (Value.string ⟨#[]⟩).cells (n+1-i)++Builtin.zeroCells (Value.string ⟨#[]⟩).cells (grownCap w (n+1) cap (Wp.t 9)-(n+1)));have A:=Ir ((strs l).drop i) (i+1) _ _ (Ir [.string c] i _ _ HA.drew).drew
    have R:(((strs l).take i).toArray++Builtin.zeroCells (Value.string ⟨#[]⟩).cells (n+1-i)++Builtin.zeroCells (Value.string ⟨#[]⟩).cells (grownCap w (n+1) cap (Wp.t 9)-(n+1))).size=grownCap w (n+1) cap (Wp.t 9):=by
     simp only[dQ,VJ,bM,CU,f];show min i n+_*1+_*1=_;omega
    refine fresh _ _ _ ?_ A (by rw[Lt,Lt,R]) (by omega) E (λj b=>?_)
    ·have r:w.grownBy (w.alloc (.cells (((strs l).take i).toArray++Builtin.zeroCells (Value.string ⟨#[]⟩).cells (n+1-i)++Builtin.zeroCells (Value.string ⟨#[]⟩).cells (grownCap w (n+1) cap (Wp.t 9)-(n+1))) 9)) (some g):=⟨rfl,rfl,rfl,by simp,λk o _=>heap_alloc_old w _ o⟩
     have s:=Iy (g:=w.heap.size) [.string c] i (w.alloc (.cells (((strs l).take i).toArray++Builtin.zeroCells (Value.string ⟨#[]⟩).cells (n+1-i)++Builtin.zeroCells (Value.string ⟨#[]⟩).cells (grownCap w (n+1) cap (Wp.t 9)-(n+1))) 9)).drew _ rfl;have C:=Iy (g:=w.heap.size) ((strs l).drop i) (i+1) (((w.alloc (.cells (((strs l).take i).toArray++Builtin.zeroCells (Value.string ⟨#[]⟩).cells (n+1-i)++Builtin.zeroCells (Value.string ⟨#[]⟩).cells (grownCap w (n+1) cap (Wp.t 9)-(n+1))) 9)).drew.setCells w.heap.size i [.string c])).drew _ rfl;refine⟨C.os.trans (s.os.trans r.os),C.tape.trans (s.tape.trans r.tape),C.output.trans (s.output.trans r.output),BN r.size (BN s.size C.size),λk o N=>?_⟩
     have S:some k≠some w.heap.size:=λe=>by cases e;omega
     exact(C.block k (DD (DD o r.size) s.size) S).trans ((s.block k (DD o r.size) S).trans (r.block k o N))
    ·rw [Vd,Vd,ZN c q,Lt,DJ,f,R];simp only[JB];by_cases d:j<i
     ·rw [AO (by omega),AO (by omega),AC d];rw[nY (by simp[f];omega),nY (by simp[f];omega)];rw[List.getElem?_toArray,GZ,AC d]
     ·rw [AO d];by_cases B:j=i
      ·subst B;rw[AO (by omega),AC (by omega),AC rfl,I9];rfl
      ·rw [AC (by omega),AO B,IX]
       congr 1;omega
   ·obtain rfl:i=n:=by omega
    refine(Any2.slices_Insert_string_end_grow WC (some ⟨g,0,none⟩) i cap m 0 1 1 (strs l) [.string c] w (by omega) P (by omega) (by omega) f rfl (λe=>by cases e) (λa e j u p=>by cases e;rw[Addr.add_lit];exact L j u p) x y).mono ?_;rintro e w' ⟨rfl,rfl⟩;refine fresh _ _ _ ⟨rfl,rfl,rfl,by simp,λk o _=>heap_alloc_old w.drew _ o⟩ (I8 w.drew _) ?_ (by omega) E (λj b=>?_)
    ·simp only [dQ,VJ,bM,A8,f,JB];show i+1+_*1=_;omega
    ·rw [ZN c q,nY (by simp [f];omega),List.getElem?_toArray];by_cases d:j<i
     ·rw[AC d,G9 (by omega)]
     ·obtain rfl:j=i:=by omega
      rw[AO d,AC rfl,GU (by omega),f,I9];rfl
def GJ0{g:Nat}:∀(a:List Value) (o q:Nat) (w:World) (b:Array Value),Has w g 9 b->Has ((w.drewN q).setCells g o a) g 9 (QN b o a):=λa o q w b h=>Ir a o _ _ (h.drewN q)
def AZ0 {w:World} {base n i:Nat} {v:Value} {l:List ByteArray} (h:w.ownsRow base 9 1 v n (strs l)) (K:i<n) (I:n<=1000000) {x y:Int} (C:x=i) (L:y=i+1) :
 Calls Tryz.prog 56 #[v,.int .i64 x,.int .i64 y] w (fQ w base v (n-1) (l.take i++l.drop (i+1))):=by
 subst C
 obtain rfl:y=((i+1:Nat):Int):=by omega
 have M:l.length=n:=by have:=h.1;rw[Gg]at this;omega
 rcases h.2 with⟨_,N⟩ |⟨g,cap,b,rfl,u,D,z,c,J,o⟩
 ·omega
 have H:Has w g 9 b:=D
 have A:b.size=cap:=by omega
 have p:∀ j,j<n->b[j]? = (strs l)[j]? := λj a=>by
  rw[<- o,Nat.mul_one,GZ,AC a,nU]
 have B:∀ j,j<n->w.cell? ⟨g,0+j,none⟩=some (.string (l.getD j ⟨#[]⟩)):=λj a=>by
  rw[FM,H.cell,p j a];unfold strs;rw[GH,LH,DK (by omega)];rfl
 refine(Tryz.slices_Delete_string_cells g 0 n cap i (i+1) (λj=>l.getD j ⟨#[]⟩) w z (by unfold maxLen at c;omega) (by omega) (by omega) B (λj a=>H.frozen _)).mono ?_;rintro e w' ⟨rfl,q,rfl⟩
 have E:Lib.strsOf (λj=>l.getD j ⟨#[]⟩) n=l.map (λs=>s.data.toList):=by
  refine JC λj=>?_;unfold Lib.strsOf;rw[GH,GH];by_cases a:j<n
  ·rw [YG a,DK (by omega:j<l.length)];simp only[mQ,LH];rw[DK (by omega:j<l.length)];rfl
  ·rw[MH (by simp;omega),MH (by omega)];rfl
 have d:∀ k:List ByteArray,(k.map (λs=>s.data.toList)).map Go.Proofs.encStr=strs k:=λk=>by
  rw[YB];rfl
 have F:=GJ0 ((((Lib.strsOf (λj=>l.getD j ⟨#[]⟩) n).take i++(Lib.strsOf (λj=>l.getD j ⟨#[]⟩) n).drop (i+1)++List.replicate (i+1-i) []).map Go.Proofs.encStr)) 0 q w b H
 have G:n-(i+1-i)=n-1:=by omega
 have t:((l.take i++l.drop (i+1))).length=n-1:=by simp;omega
 rw[G];refine⟨_,rfl,row_of F u (by rw[Lt,A]) (by omega) c (by rw[Gg,t]) (λj a=>?_),Yv (r:=some g) (w1:=w.drewN q) ⟨rfl,rfl,rfl,AY _,λ_ _ _=>rfl⟩ (Iy _ _ _ _ rfl),.inl rfl⟩;rw[Vd,E,D9,D9,<- QX,<- MW,d,d]
 have f:(strs (l.take i)).length=i:=by rw[Gg];simp;omega
 have m:(strs (l.drop (i+1))).length=n-(i+1):=by rw[Gg];simp;omega
 rw[AC ⟨BR _,by simp only[A8,f,m];omega,by omega⟩,Nat.sub_zero,G9 (by simp only[A8,f,m];omega)];unfold strs;rw[<- D9]
def Kv {w:World} {A:Option Addr} {m c:Nat} {l:List ByteArray} (h:SS w A m l) (n:m<=1000000) :
 Calls Tryz.prog 198 #[.slice A m c] w (λe w'=>∃ v',e = .returned v'/\w'.ownsRow w.heap.size 9 1 v' m (strs l)/\Below w.heap.size w w'):=by
 cases A with
 | none =>
   have f:m=0:=by
    refine FC λo=>?_;obtain⟨b,off,e,_⟩:=h.2 (by omega)
    cases e
   subst f;have l0:l=[]:=TE.1 h.1;subst l0;refine(Tryz.slices_Clone_string_nil 0 c w).mono ?_;rintro e w' ⟨rfl,rfl⟩;exact⟨_,rfl,⟨rfl,.inl ⟨rfl,rfl⟩⟩,AU _ _⟩
 | some a =>
   by_cases f:m=0
   ·subst f;have l0:l=[]:=TE.1 h.1;subst l0;refine(Tryz.slices_Clone_string_zero a c w).mono ?_;rintro e w' ⟨v',rfl,d,_,g⟩;exact⟨v',rfl,d,g⟩
   ·obtain ⟨b,off,e,p,i⟩:=h.2 (by omega)
    cases e
    refine(Tryz.slices_Clone_string b off m c l w (by rw[h.1];exact AY _) (by omega) (λj k=>i j _ ?_)).mono ?_
    ·rw[LH,DK k];rfl
    rintro e w' ⟨v',rfl,d,_,g⟩;rw[EE (by rw[h.1];exact AY _)]at d;exact⟨v',rfl,d,g⟩
end Go.Proofs.YtjihboddejaelaaGreat
