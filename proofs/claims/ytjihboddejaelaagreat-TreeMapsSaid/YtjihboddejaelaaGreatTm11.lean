/-
  Rollback of package pool.
-/
import Derived.Test.YtjihboddejaelaaGreatTm1
import Derived.Test.YtjihboddejaelaaGreatTm10
import Derived.Test.YtjihboddejaelaaGreatShelf
import Derived.Test.YtjihboddejaelaaGreatTm9
import Derived.Test.YtjihboddejaelaaGreatTm5
import Derived.Test.YtjihboddejaelaaGreatTm7
import Derived.Test.YtjihboddejaelaaGreatTm2
import Derived.Deep.RegionHeld3
set_option linter.unusedVariables false
set_option linter.unusedSimpArgs false
set_option linter.defProp false
set_option maxRecDepth 100000
set_option maxHeartbeats 100000000
namespace Go.Proofs.YtjihboddejaelaaGreat
open Go.RowKit Go.BigFrame Go.Maps
def stays(T:List Nat)(left:Lit->Bool)(f:Pf):Bool:=!(decide (f.n∈T)) || left (.int .i64 f.n)
def UY0{T:List Nat}{left:Lit->Bool}{F:List Pf}(h:∀ x∈T,left (.int .i64 x)=true):F.filter (stays T left)=F:=dI.2 λf _=>by
 unfold stays;by_cases a:f.n∈T
 ·rw[h _ a];simp
 ·simp[a]
def CW1{T:List Nat}{left:Lit->Bool}{F:List Pf}(h:∀ k,left k=false):F.filter (stays T left)=F.filter (λf=>!(decide (f.n∈T))):=by
 congr 1;funext f;unfold stays;rw[h];simp
def YU0{T:List Nat}{left:Lit->Bool}{F:List Pf}{n:Nat}(c:n∈T):F.filter (stays T (λz=>left z && !z.sameKey (.int .i64 (n:Int))))=Ns n (F.filter (stays T left)):=by
 unfold Ns;rw[List.filter_filter]
 congr 1;funext f;unfold stays
 by_cases b:f.n=n
 ·subst b;dsimp only;rw[WideAt.sameKey_self (a:=.int .i64 (f.n:Int)) trivial];simp[c]
 ·have d:(Lit.int .i64 (f.n:Int)).sameKey (.int .i64 (n:Int))=false:=sameKey_ne λe=>by cases e;exact b (by omega)
  dsimp only;rw[d]
  have:(f.n != n)=true:=by simpa using b
  rw[this];simp
def AH1{F:List Pf}{n:Nat}(h:∀ f∈F,(f.n:Int)≠(n:Int)):Ns n F=F:=dI.2 λf a=>by have:=h f a;simp;omega
def Qm:∀ {A:List Nat} {F:List Pf} {x:Int},A.length=F.length->Dl A F x=none->∀ f∈F,(f.n:Int)≠x
 | [],[],_,_,_,f,b=>by cases b
 | [],_ :: _,_,h,_,_,_=>by simp at h
 | _ :: _,[],_,h,_,_,_=>by simp at h
 | a :: A,f0 :: F,x,h,h1,f,b=>by
   rw[Dl]at h1;by_cases c:(f0.n:Int)=x
   ·rw[AC c]at h1;cases h1
   ·rw [AO c] at h1
    rcases BI.1 b with rfl | b
    ·exact c
    ·exact Qm (by simpa using h) h1 f b
def IS1{D:DataW Unit}{T:List Nat}(h:Says D (Pj T)):∀ x∈T,Maps.has D (.int .i64 (x:Int))=true:=λx a=>by
 rw[h.has];unfold Pj;rw[AC ⟨x,a,rfl⟩];rfl
def rY{D:DataW Unit}{A:List Nat}{F:List Pf}(a:A.length=F.length)(h:Says D (Dl A F)):∀ f∈F,Maps.has D (.int .i64 (f.n:Int))=true:=λf b=>by
 rw[h.has]
 cases c:Dl A F f.n with
 | none=>exact absurd rfl (Qm a c f b)
 | some _=>rfl
section
variable {w w':World} {b b':List (Option Nat)} {gd g m1 m2 m1' m2' p e h t:Nat} {A A1 A2:List Nat} {a:Nat} {P:Pl}
def PM.iZ (H:PM w b gd g m1 m2 p e h t A P) :
 PM ((w.alloc (.map #[] 0)).setCell ⟨p,6,none⟩ (.map (some w.heap.size))) b gd g m1 m2 p e h w.heap.size A { P with turned:=[] } /\
 Turn (allB b g m1 m2 p e h t A) (allB b g m1 m2 p e h w.heap.size A) w ((w.alloc (.map #[] 0)).setCell ⟨p,6,none⟩ (.map (some w.heap.size))):=by
 have j:Below w.heap.size w (w.alloc (.map #[] 0)):=(AU _ _).alloc (AY _) _;have f:=H.below j;have z:=H.has.lt
 have n:¬ h=p:=λx=>by subst x;exact H.held.Gx H.has
 have o:¬ w.heap.size=p:=by omega
 have i:some p∈pb p e h t A:=Fb.2 (.inl rfl);have r:=Eu [some p] p 6 (.map (some w.heap.size)) (w.alloc (.map #[] 0)) (BH.2 rfl);have l:∀ k,some k∈b++lb g m1 m2->k<w.heap.size:=λk a=>H.log.lt a;refine⟨⟨f.log.far r (λk s u=>by cases BH.1 s;exact H.off p u i),f.has.set 6 _,f.ring.kept λx v=>CX _ _ _ _ (λy=>H.hp (by rw[show p=x from y.symm];exact v)),f.held.far n _, ?_,H.hp,λx=>by have:=H.held.lt;omega, ?_⟩, ?_⟩
 ·refine ((GM.made (plainElem Tryz.prog 3) w).far (p:=⟨p,6,none⟩) o _).congr λx=>?_
  unfold Pj;rw[AO];rintro⟨m,i,_⟩;cases i
 ·intro k d q
  rcases Fb.1 q with a | a | a | a
  ·exact H.off k d (Fb.2 (.inl a))
  ·exact H.off k d (Fb.2 (.inr (.inl a)))
  ·have:=l k d;omega
  ·exact H.off k d (Fb.2 (.inr (.inr (.inr a))))
 ·have c:=(Turn.below (allB b g m1 m2 p e h t A) j).trans (Eu _ p 6 (.map (some w.heap.size)) _ (BC _ i));refine⟨c.os,c.tape,c.output,c.size,c.block,λk a=>?_⟩
  rcases BO.1 a with a | a
  ·exact .inl (BL _ a)
  ·rcases Fb.1 a with a | a | a | a
   ·exact .inl (BC _ (Fb.2 (.inl a)))
   ·exact .inl (BC _ (Fb.2 (.inr (.inl a))))
   ·exact .inr (bY a.symm)
   ·exact .inl (BC _ (Fb.2 (.inr (.inr (.inr a)))))
end
def lF{w w':World}{r:Nat}{b:List (Option Nat)}(h:w.grownBy w' (some r))(c:some r∈b):Turn b b w w' :=
 ⟨h.os,h.tape,h.output,h.size,λk a d=>h.block k a (λe=>d (e ▸ c)),λk a=>.inl a⟩
def Turn.cons{w w':World}{b b':List (Option Nat)}(h:Turn b b' w w')(a:Option Nat):Turn (a :: b) (a :: b') w w' :=
 ⟨h.os,h.tape,h.output,h.size,λk c d=>h.block k c (λe=>d (BF _ e)),λk c=>by
   rcases BI.1 c with c | c
   ·exact .inl (c ▸ AZ ..)
   ·exact(h.new k c).imp (BF _) id⟩
def Turn.tail{w w':World}{b b':List (Option Nat)}{a:Option Nat}(h:Turn b (a :: b') w w'):Turn b b' w w':=⟨h.os,h.tape,h.output,h.size,h.block,λk c=>h.new k (BF _ c)⟩
def LU1{b:List (Option Nat)}{g m1 m2 p e h t k:Nat}{A A':List Nat}(c:∀ x∈A',x∈A)(a:some k∈allB b g m1 m2 p e h t A'):some k∈allB b g m1 m2 p e h t A:=by
 rcases BO.1 a with a | a
 ·exact BL _ a
 ·refine BC _ (Fb.2 ?_)
  rcases Fb.1 a with a | a | a | a
  ·exact .inl a
  ·exact .inr (.inl a)
  ·exact .inr (.inr (.inl a))
  ·refine .inr (.inr (.inr ?_))
   rcases BI.1 a with a | a
   ·rw[a];exact AZ ..
   ·exact BF _ (c k a)
def qC(B:List (Option Nat))(w:World)(gd g p e h:Nat)(P:Pl)(E:Int)(b:Ending)(w':World):Prop :=
 b = .returned (.int .i64 E)/\∃ b' m1' m2' a A',PM w' b' gd g m1' m2' p e h a A' P/\Turn B (allB b' g m1' m2' p e h a A') w w'
def NO0 (b:List (Option Nat)) (gd g m1 m2 p e h t:Nat) (A:List Nat) (P:Pl) (w:World) (H:PM w b gd g m1 m2 p e h t A P) (ok:P.ok) (bc:P.rolled.ok) (bd:Fit P.L.back.D 1) :
 Calls Tryz.prog 83 #[.pointer (some ⟨p,0,none⟩)] w (qC (allB b g m1 m2 p e h t A) w gd g p e h P.Gz.1 P.Gz.2):=by
 have HP:=Ac H;obtain⟨DH,ak,a5,b0⟩:=H.held;have x3:w.cell? ⟨p,3,none⟩=some (.map (some h)):=H.has.cell 3;have be:=Ac a5;have ch:=ak.size_le;have OK:=Ac ok;have bf:=Ac bc;have b2:=Ac bd;have b3:=H.has.lt;clear H ok bc bd a5 b0;go_enter Tryz.func83,Tryz.ntmps83
 go_wp2_with (first
  |(at_range;refine lT _ rfl _ 103 rfl 3 102 Ol XO _ h _ _ rfl ak ?_;intro w0 al bg b4)
  | go_in)
 go_frame
 have b6:=Ac ((AU w.heap.size w).grown bg (by omega) (λj hj=>by cases hj));obtain⟨r,hr⟩:∃ r,w.heap.size=r:=⟨_,rfl⟩;rw[hr]at al;simp only[hr];have HR:=Ac hr;clear hr x3 ak b3 b4 bg
 go_loopw [16] (λ_ wr=>∃ (left:Lit->Bool) (cnt:Nat),wr.ranges Tryz.prog 3 Nj h r P.ring.length DH left cnt/\Below w.heap.size w wr/\∀ f∈P.ring,left (.int .i64 (f.n:Int))=false->f.pins=0)
  (λ_ wr=>wr.rangeLeft h r)
 case atStart=>exact⟨_,_,al,b6,λf K y=>by rw[rY HP.ring.len be.out f K]at y;cases y⟩
 case round =>
  obtain⟨left,cnt,ap,aa,a1⟩:=hrel;have HB:=Ac aa;have bh:=Ac a1;clear al a1
  go_wp2_with (first
   |(at_next;refine Yu _ rfl _ rfl h r _ DH left cnt rfl ap _ be ?_ ?_)
   | go_in)
  ·intro aq ab;have H1:=Ac (HP.below aa);have AP:=Ac (λf K=>bh f K (ab _));have T1:=Ac (Turn.below (allB b g m1 m2 p e h t A) aa);have x0:wr.cell? ⟨p,0,none⟩=some (Cc g):=H1.has.cell 0;have BK:=Ac (MQ1 H1 OK.log);clear ap aa ab aq
   go_wp2_with (first
    |(go_at_call 163;refine BK.mono ?_;rintro z w1 ⟨rfl,M,N,n2,ah,ht⟩;have HM:=Ac ah;have X:=Ac (T1.trans ht);have y6:w1.cell? ⟨p,6,none⟩=some (.map (some t)):=ah.has.cell 6;obtain⟨DT,a3,a4,b7⟩:=ah.turned;clear ah ht)
    |(at_range;refine lT _ rfl _ 104 rfl 3 3 Ol PU _ t _ _ rfl a3 ?_;intro w2 am bi b8)
    | go_in)
   go_frame
   have ar:=(AU w1.heap.size w1).grown bi (by omega) (λj hj=>by cases hj)
   have bj:=Ac X.size;obtain⟨i,ai⟩:∃ r,w1.heap.size=r:=⟨_,rfl⟩
   have b9:Hid (∀ k,some k∈allB M g N n2 p e h t A->k<i):=λk d=>ai ▸ HM.lt k d;have H2:=Ac (HM.below ar);have T2:=Ac ((X.trans (Turn.below _ ar)).more (a:=i) (by have:=bj.out;omega));rw[ai]at am;simp only[ai];clear x0 y6 a3 b7 b8 bi ar ai HM X H1 T1 BK HB HR bj;have a6:=Ac a4;clear a4
   go_loopw [35] (λ_ wq=>∃ (left:Lit->Bool) (cnt:Nat) (A':List Nat),wq.ranges Tryz.prog 3 (plainElem Tryz.prog 3) t i P.turned.length DT left cnt/\PM wq M gd g N n2 p e h t A' { P with L:=P.L.back,ring:=P.ring.filter (stays P.turned left) } /\
    Turn (allB b g m1 m2 p e h t A) (some i :: allB M g N n2 p e h t A') w wq/\∀ k∈A',k∈A)
    (λ_ wq=>wq.rangeLeft t i)
   case atStart=>exact⟨_,_,A,am,by rw[UY0 (IS1 a6.out)];exact H2,T2,λ_ d=>d⟩
   case round =>
    obtain⟨ae,cg,A',ag,a7,bk,a8⟩:=hrel;have au:=Ac a7;have av:=Ac bk;have aw:=Ac a8;clear a7 bk a8 am H2 T2
    go_wp2_with (first
     |(at_next;refine wpList_next_ranges_ii _ rfl _ rfl 3 3 .i64 .i64 Ol IB IB t i _ _ _ _ rfl ag ?_ ?_)
     | go_in)
    ·intro aq ab;have e2:=CW1 (T:=P.turned) (F:=P.ring) ab;have o:=au.out;rw[e2]at o;have B:=o.iZ;rw[bQ _ _ _ _ o.has.lt]at B;have B:=Ac B;have TT:=Ac (av.tail.trans B.2);have PG:Hid (∀ wz,PM wz M gd g N n2 p e h wr.heap.size A' { P with L:=P.L.back,ring:=P.ring.filter (λf=>!(decide (f.n∈P.turned))),turned:=[] }->Calls Tryz.prog 39 #[Cc g] wz λe w'=>e = .returned (.int .i64 P.L.pages)/\wz=w'):=λwz hz=>aZ M gd g N n2 P.L.back.rw wz hz.log;have O:=B.1.set (P':=P.rolled) 4 (.int .i64 P.L.pages) rfl rfl rfl rfl;rw[bQ _ _ _ _ (by rw[World.size_setCell];exact o.has.lt)]at O;have O:=Ac O;have RD:=Ac (bJ M gd g N n2 p e h wr.heap.size A' P.rolled 0 ⟨by omega,by omega⟩ _ O.1 bf b2)
     have x6:wr.cell? ⟨p,6,none⟩=some (.map (some t)):=o.has.cell 6;have x4:wr.cell? ⟨p,4,none⟩=some (.int .i64 P.pages):=o.has.cell 4;have x0:wr.cell? ⟨p,0,none⟩=some (Cc g):=o.has.cell 0;have xf:=o.has.frozen;have xl:=o.has.lt;have cj:=ZH
     have bl:Hid (P.Gz=P.rolled.root):=Ac (AO λhx=>by
      obtain⟨f,K,W⟩:=VQ.1 hx;have:=AP f K
      rw[this]at W;cases W)
     have bm:=Ac (Yo bf 0)
     have R:Hid (P.rolled.root=if (P.rolled.get 0).2=0 then (match Ie (P.rolled.get 0).1.Pv.s with
      | none=>({ (P.rolled.get 0).1 with free:=0 },4)
      | some pg=>({ (P.rolled.get 0).1 with free:=pg.2.1 },0))else P.rolled.get 0):=rfl
     have TX:Hid (P.rolled.text 0=if(P.rolled.get 0).2=0 then(P.rolled.get 0).1.Pv.s else⟨#[]⟩):=rfl
     obtain⟨T,hT⟩:∃ T,P.rolled.text 0=T:=⟨_,rfl⟩;obtain⟨Q,hQ⟩:∃ Q,(P.rolled.get 0).1=Q:=⟨_,rfl⟩;obtain⟨E,hE⟩:∃ E,(P.rolled.get 0).2=E:=⟨_,rfl⟩
     have bn:P.rolled.get 0=(Q,E):=by rw[<- hQ,<- hE]
     rw[hT,hQ,hE]at RD TX;rw[hQ]at bm;rw[bn]at R;rw[<- bl.out]at R;dsimp only at R;clear hT hQ hE bn bl o e2 ab aq ag au av;by_cases bo:E=0
     ·subst bo;have X:=Ac (TX.trans (AC rfl));have I:=Ac (R.trans (AC rfl));rw[<- X.out]at I
      have TZ:T.size<=1048576:=by rw[X.out];exact BN (kU bm) (by omega)
      have OP:=Ac (λw=>aW T TZ w);clear R TX TZ
      cases Y:Ie T with
      | none =>
        have ax:Hid (∀ w,Calls Tryz.prog 124 #[.string T] w λe w'=>e = .returned (.tuple #[.agg #[.int .i64 0,.int .i64 0,.slice none 0 0],.int .i64 4])/\Below w.heap.size w w'):=λw=>by
         have:=OP w;rw[Y]at this;exact this
        have ay:Hid (P.Gz=({ Q with free:=0 },4)):=by have:=I.out;rw[Y]at this;exact this
        clear OP I Y
        go_wp2_with (first
         |(go_at_call 39;refine(PG _ B.1).mono ?_;rintro z w4 ⟨rfl,rfl⟩)
         |(go_at_call 70;refine RD.mono ?_;rintro z w5 ⟨rfl,b5,n5,n6,A5,G,J⟩)
         |(go_at_call 124;refine(ax _).mono ?_;rintro z u ⟨rfl,ac⟩;have q:=Ac (G.below ac);have y5:u.cell? ⟨p,5,none⟩=some (.int .i64 Q.free):=q.has.cell 5;have yf:=q.has.frozen;have yl:=q.has.lt)
         | go_in)
        go_ret;rw[ay.out];have S:=q.set (P':={ Q with free:=0 }) 5 (.int .i64 0) rfl rfl rfl rfl;have q3:Below (u.setCell ⟨p,5,none⟩ (.int .i64 0)).heap.size (u.setCell ⟨p,5,none⟩ (.int .i64 0)) ((u.setCell ⟨p,5,none⟩ (.int .i64 0)).alloc (.cells #[.int .i64 0,.int .i64 0,.slice none 0 0] 114)):=(AU _ _).alloc (AY _) _;exact⟨rfl,b5,n5,n6,_,A5,S.1.below q3,((((TT.trans O.2).trans J).trans (Turn.below _ ac)).trans S.2).trans (Turn.below _ q3)⟩
      | some pg =>
        obtain⟨k,l,cs⟩:=pg
        have ax:Hid (∀ w,Calls Tryz.prog 124 #[.string T] w λe w'=>∃ A c,e = .returned (.tuple #[.agg #[.int .i64 k,.int .i64 l,.slice A cs.length c],.int .i64 0])/\SS w' A cs.length cs/\Below w.heap.size w w'):=λw=>by
         have:=OP w;rw[Y]at this;exact this
        have ay:Hid (P.Gz=({ Q with free:=l },0)):=by have:=I.out;rw[Y]at this;exact this
        clear OP I Y
        go_wp2_with (first
         |(go_at_call 39;refine(PG _ B.1).mono ?_;rintro z w4 ⟨rfl,rfl⟩)
         |(go_at_call 70;refine RD.mono ?_;rintro z w5 ⟨rfl,b5,n5,n6,A5,G,J⟩)
         |(go_at_call 124;refine(ax _).mono ?_;rintro z u ⟨A6,c6,rfl,ca,ac⟩;clear ca;have q:=Ac (G.below ac);have y5:u.cell? ⟨p,5,none⟩=some (.int .i64 Q.free):=q.has.cell 5;have yf:=q.has.frozen;have yl:=q.has.lt)
         | go_in)
        go_ret;rw[ay.out];have S:=q.set (P':={ Q with free:=l }) 5 (.int .i64 l) rfl rfl rfl rfl;have q3:Below (u.setCell ⟨p,5,none⟩ (.int .i64 l)).heap.size (u.setCell ⟨p,5,none⟩ (.int .i64 l)) ((u.setCell ⟨p,5,none⟩ (.int .i64 l)).alloc (.cells #[.int .i64 k,.int .i64 l,.slice A6 cs.length c6] 114)):=(AU _ _).alloc (AY _) _;exact⟨rfl,b5,n5,n6,_,A5,S.1.below q3,((((TT.trans O.2).trans J).trans (Turn.below _ ac)).trans S.2).trans (Turn.below _ q3)⟩
     ·have I:=Ac (R.trans (AO bo));clear R TX
      go_wp2_with (first
       |(go_at_call 39;refine(PG _ B.1).mono ?_;rintro z w4 ⟨rfl,rfl⟩)
       |(go_at_call 70;refine RD.mono ?_;rintro z w5 ⟨rfl,b5,n5,n6,A5,G,J⟩)
       | go_in)
      go_ret;rw[I.out];exact⟨rfl,b5,n5,n6,_,A5,G,(TT.trans O.2).trans J⟩
    ·intro x c w3 a9 bp ck cb v V ba bq cl cc;obtain⟨c',br,_⟩:=uJ a6 v;obtain⟨n,hn,rfl⟩:=AT1 br
     have an:some i∉allB M g N n2 p e h t A':=λd=>by have:=b9 i (LU1 aw d);omega
     have m:=Ac (au.far (lF bq (BH.2 rfl)) (λk d bs=>an (by rw[BH.1 d]at bs;exact bs)));have T4:=Ac (av.trans (lF bq (AZ ..)));have z3:w3.cell? ⟨p,3,none⟩=some (.map (some h)):=m.has.cell 3;have HG:=Ac m.held;have bt:=Ac m.ring.len;have ao:=Ac (YU0 (left:=ae) (F:=P.ring) hn)
     have Fz9:Hid (∀ f∈P.ring.filter (stays P.turned ae),f.n<=4294967296):=λf K=>by have:=OK.pages f (OO.1 K).1;have:=OK.few;omega
     have NM:Hid (((P.ring.filter (stays P.turned ae)).map (·.n)).Nodup):=Ac (OK.names.sublist ((Aa8).map _));obtain⟨C,bu⟩:∃ C,P.ring.filter (stays P.turned ae)=C:=⟨_,rfl⟩;rw[bu]at m HG bt ao Fz9 NM;clear bu br v
     cases Z:Dl A' C n with
     | none =>
       have HK:Hid (MN (Dl A' C n) = .pointer none):=Ac (by rw[Z];rfl);have HN:=Ac (AH1 (Qm bt Z));clear Z
       go_wp2_with (first
        |(at_lookup;refine Dv _ rfl _ _ rfl h _ (Dl A' C) rfl HG n rfl bp ?_;rw[HK.out])
        | go_in)
       go_roundw
       case rel=>exact⟨_,a9,A',V,by rw[ao.out,HN.out];exact m,T4,aw⟩
       case measure=>rw[V.left_eq,ag.left_eq];exact ba
     | some a =>
       have HK:Hid (MN (Dl A' C n)=Cc a):=Ac (by rw[Z];rfl);obtain⟨A1,A2,F1,f,F2,cd,ad,y,az⟩:=Rz Z;subst cd
       obtain rfl:f.n=n:=by omega
       have FN:=Fz9 f (by rw[ad];exact BC _ (AZ ..));have LV:=Ac (sN m ad y NM FN);have HN:=Ac (show Ns f.n C=F1++F2 by have:=NM.out;rw[ad]at this ⊢;exact Uj this)
       have TN:Hid (some t∉(some h :: (e :: (A1++a :: A2)).map some)):=λd=>by
        rcases BI.1 d with d | d
        ·cases d;exact m.ht rfl
        ·exact m.ring.off m.turned (Je.1 d)
       have RN:Hid (some i∉(some h :: (e :: (A1++a :: A2)).map some)):=λd=>an (BC _ (Fb.2 (by
        rcases BI.1 d with d | d
        ·cases d;exact .inr (.inl rfl)
        ·exact .inr (.inr (.inr (Je.1 d))))))
       clear Z y ad FN an az
       go_wp2_with (first
        |(at_lookup;refine Dv _ rfl _ _ rfl h _ (Dl (A1++a :: A2) C) rfl HG f.n rfl bp ?_;rw[HK.out])
        |(go_at_call 164;refine LV.mono ?_;rintro e2 w4 ⟨⟨rfl,G,_,J⟩,af⟩)
        | go_in)
       go_roundw
       case rel =>
        refine⟨_,a9,A1++A2,FQ0 V (af.block t m.turned.lt TN) (af.block i V.lt RN), ?_,T4.trans (J.cons _),λk d=>aw k ?_⟩
        ·rw[ao.out,HN.out];exact G
        ·simp only [BO,BI] at d ⊢
         rcases d with d | d
         ·exact .inl d
         ·exact .inr (.inr d)
       case measure =>
        rw[(FQ0 V (af.block t m.turned.lt TN.out) (af.block i V.lt RN.out)).left_eq,ag.left_eq];exact ba
  ·intro x c w1 bz bv cb bb ce cf cn cc;obtain⟨A1,A2,F1,f,F2,hA,hF,y,az⟩:=Rz bv;subst hA;subst az;have aj:=Ac (HB.grown cf HB.size (λj hj=>by cases hj;exact bY HR));have v:=HP.ring;rw[hF]at v;have v:=(v.at y).Ai aj;have a2:w1.cell? ⟨c,2,none⟩=some (.int .i64 f.pins):=v.cell 2;have HF:=Ac hF;have H1:=Ac (HP.below aj);have ND:=Ac OK.names;clear v y hF bv aa;by_cases bw:f.pins=0
   ·rw [bw] at a2;have a2:w1.cell? ⟨c,2,none⟩=some (.int .i64 0):=a2
    go_wp2_with go_in
    go_roundw
    case rel =>
     refine⟨_,bz,bb,aj,λf2 W a0=>?_⟩;by_cases hx:f2.n=f.n
     ·have:f2=f:=by
       have bx:=ND.out;rw[HF.out]at bx W;obtain⟨q1,S,_⟩:=Fz bx
       rcases BO.1 W with U | U
       ·exact absurd (by rw[hx]) (q1 f2 U)
       ·rcases BI.1 U with U | U
        ·exact U
        ·exact absurd (by rw[hx]) (S f2 U)
      rw[this];exact bw
     ·have d:(Lit.int .i64 (f2.n:Int)).sameKey (.int .i64 (f.n:Int))=false:=sameKey_ne λe=>hx (by have h5:=(Lit.int.inj e).2;omega)
      (try dsimp only at a0)
      rw[d]at a0;exact bh f2 W (by simpa using a0)
    case measure=>rw[bb.left_eq,ap.left_eq];exact ce
   ·have g0:(0:Int)<(f.pins:Int):=by omega
    go_wp2_with go_in
    go_ret;have HE:P.Gz=(P,6):=AC (VQ.2 ⟨f,by rw[HF.out];exact BC _ (AZ ..),by simpa using(by omega:0<f.pins)⟩);rw[HE];exact⟨rfl,b,m1,m2,t,_,H1,Turn.below _ aj⟩
def JO1:(Tryz.prog.info? 3).map (λi=>(i.zero,i.size,i.bytes))=some (some (.int .i64 0),1,8):=by kernel_rfl
def RP(l:List Nat):List Value:=l.map (λn:Nat=>.int .i64 (n:Int))
def BQ1{l:List Nat}:∀ u∈RP l,u.oneCell'=true:=λu a=>by
 obtain⟨v,_,rfl⟩:=DI.1 a;rfl
def NL(w:World)(A:Option Addr)(l:List Nat):Prop :=
 0<l.length->∃ b,A=some ⟨b,0,none⟩/\b<w.heap.size/\∀ i k:Nat,l[i]? = some k->w.cell? ⟨b,i,none⟩=some (.int .i64 (k:Int))
def NL.turn{w w':World}{A:Option Addr}{l:List Nat}{b b':List (Option Nat)}(h:NL w A l)(a:Turn b b' w w')(d:∀ k,A.map (·.block)=some k->some k∉b):NL w' A l:=λe=>by
 obtain⟨k,rfl,c,f⟩:=h e;refine⟨k,rfl,DD c a.size,λi x g=>?_⟩;exact(lW (a.block k c (d k rfl))).trans (f i x g)
def GC0:∀ {l1 l2:List Nat},l1.Pairwise (·<= ·)->l2.Pairwise (·<= ·)->l1.Perm l2->l1=l2
 | [],l2,_,_,h=>(List.Perm.nil_eq h)
 | a :: l1,[],_,_,h=>by have:=h.length_eq;simp at this
 | a :: l1,b :: l2,h1,h2,h=>by
   rw[JK]at h1 h2
   have e:a=b:=by
    have c:a∈b :: l2:=h.mem_iff.1 (AZ ..);have d:b∈a :: l1:=h.mem_iff.2 (AZ ..)
    rcases BI.1 c with c | c
    ·exact c
    ·rcases BI.1 d with d | d
     ·exact d.symm
     ·have:=h1.1 b d;have:=h2.1 a c;omega
   subst e;rw[GC0 h1.2 h2.2 ((List.perm_cons a).1 h)]
def IH1{l1 l2:List Nat}(h:l1.Perm l2):l1.mergeSort (·<= ·)=l2.mergeSort (·<= ·):=by
 have d:∀ l:List Nat,(l.mergeSort (λa b=>decide (a<=b))).Pairwise (·<= ·):=λl=>by
  have:=List.pairwise_mergeSort (le:=λa b:Nat=>decide (a<=b)) (λa b c e f=>by simp at e f ⊢;omega) (λa b=>by simp;omega) l;exact this.imp (λh=>by simpa using h)
 exact GC0 (d l1) (d l2) (((List.mergeSort_perm l1 _).trans h).trans (List.mergeSort_perm l2 _).symm)
def CG1(l:List Nat):(l.map (λn:Nat=>(n:Int))).mergeSort (λx y=>decide (x<=y))=(l.mergeSort (·<= ·)).map (λn:Nat=>(n:Int)) :=
 (List.map_mergeSort (f:=λn:Nat=>(n:Int)) (r:=λa b=>decide (a<=b)) (s:=λx y=>decide (x<=y)) (λa _ b _=>by simp)).symm
def JC1(w:World)(a:Nat)(v:Value)(l:List Nat)(b:Ending)(w':World):Prop :=
 b = .returned (.tuple #[])/\w.grownBy w' v.ownBlock/\∃ A c,v = .slice A l.length c/\NL w' A (l.mergeSort (·<= ·))/\∀ k,A.map (·.block)=some k->a<=k/\k<w'.heap.size
def GT1{w:World}{f:Nat}{v:Value}{l:List Nat}(h:w.ownsRow f 3 1 v l.length (RP l))(L:l.length<=1000000):Calls Tryz.prog 96 #[v] w (JC1 w f v l):=by
 rcases h.2 with⟨rfl,B⟩ |⟨g,cap,m,rfl,C,d,I,J,K,u⟩
 ·refine (Tryz.slices_Sort_int_none none 0 w).mono ?_;rintro D w' ⟨rfl,rfl⟩;have E:l=[]:=MI B;subst E;exact⟨rfl,grownBy_refl _ _,none,0,rfl,λb=>by simp at b,λk a=>by cases a⟩
 ·have o:g<w.heap.size:=(LK.1 d).1
  have p:Sort.Holds (Value.int .i64) w g 0 (l.map (λn:Nat=>(n:Int))).toArray:=λj q=>by
   have x:j<l.length:=by simpa using q
   have r:(l.map (λn:Nat=>(n:Int))).toArray[j]! = (l[j]:Int):=by
    rw[getElem!_pos _ j q];simp
   have F:m[j]? = some (.int .i64 (l[j]:Int)):=by
    have:(m.toList.take (l.length*1))[j]? = (RP l)[j]? := by rw[u]
    rw[GZ,AC (by omega)]at this;simpa[RP,x]using this
   rw[r];exact⟨by simp[World.cell?,d,F],by simp[World.frozen?,d]⟩
  have e:=Tryz.slices_Sort_int g 0 cap (l.map (λn:Nat=>(n:Int))) w p o (by simp;omega);rw[BZ]at e;refine e.mono ?_;rintro D w' ⟨rfl,n,M,rfl⟩;rw[CG1];have y:Sort.Holds (Value.int .i64) (Sort.ahead w n) g 0 (l.map (λn:Nat=>(n:Int))).toArray:=p
  have z:((l.mergeSort (·<= ·)).map (λn:Nat=>(n:Int))).toArray.size=(l.map (λn:Nat=>(n:Int))).toArray.size:=by simp[dA]
  have s:g<(Sort.putRow (Value.int .i64) (Sort.ahead w n) g 0 ((l.mergeSort (·<= ·)).map (λn:Nat=>(n:Int))).toArray).heap.size:=by rw[Sort.size_putRow];exact o
  refine⟨rfl,⟨rfl,rfl,rfl, ?_,λi G A=>?_⟩,some ⟨g,0,none⟩,cap,rfl,λ_=>⟨g,rfl, ?_,λi k a=>?_⟩,λk a=>?_⟩
  ·rw[Sort.size_grow,Sort.size_putRow];exact SY _ _
  ·rw [Sort.heap_grow_old _ _ (by rw [Sort.size_putRow];exact G)];have t:¬ g=i:=λe=>A (by rw[e];rfl);simp[Sort.putRow,Sort.mapBlock,Array.getElem?_modify,t,Sort.ahead]
  ·rw[Sort.size_grow];omega
  ·have c:i<(l.mergeSort (·<= ·)).length:=by
    rcases JR i (l.mergeSort (·<= ·)).length with b | b
    ·exact b
    ·rw[MH b]at a;cases a
   rw[Sort.cell?_grow _ _ _ s];have:=Sort.cell?_putRow (Value.int .i64) (Sort.ahead w n) g 0 _ ((l.mergeSort (·<= ·)).map (λn:Nat=>(n:Int))).toArray y z i (by simpa using c);rw[FM]at this;rw[this,getElem!_pos _ i (by simpa using c)]
   have H:(l.mergeSort (·<= ·))[i]=k:=by rw[DK c]at a;exact CV a
   simp[H]
  ·cases a
   exact⟨C,show g<_ by rw[Sort.size_grow];omega⟩
section
variable {w w':World} {b b':List (Option Nat)} {gd g m1 m2 m1' m2' p e h t:Nat} {A A1 A2:List Nat} {a:Nat} {P:Pl}
def wL (H:PM w b gd g m1 m2 p e h t A P) (ok:P.L.ok) (a:Fit P.L.D 4) (n:Int) (s:ByteArray) (q:Int) :
 Calls Tryz.prog 40 #[Cc g,.int .i64 n,.string s,.int .i64 q] w (UD (allB b g m1 m2 p e h t A) w gd g p e h t A { P with L:=P.L.Bi n s q } (.int .i64 (P.L.Ez n s q))):=by
 refine(sH H.log ok a n s q).mono λl w' c=>?_;obtain⟨d,b',m1',m2',f,i⟩:=c;obtain⟨j,k⟩:=H.ZU f i;exact⟨d,b',m1',m2',j,k⟩
def AU0 (H:PM w b gd g m1 m2 p e h t A P) (ok:P.L.ok) (d:P.L.D.down=false) (c:Fit P.L.D 70000) :
 Calls Tryz.prog 99 #[Cc g] w (UD (allB b g m1 m2 p e h t A) w gd g p e h t A { P with L:=P.L.Ah.1 } (.int .i64 P.L.Ah.2)):=by
 obtain⟨f,i⟩:=MA0 ok d;rw[i];refine(KE0 b gd g m1 m2 P.L.rw w H.log c ok.slot ok.number (show P.L.pages<=_ by have:=ok.pages;omega) (λx=>by show Aw P.L.fs x<=_;have:=Wv P.L.fs x;have:=ok.len;omega)).mono λo w' a=>?_
 ·rw [<- f] at a;obtain⟨j,b',m1',m2',k,l⟩:=a;obtain⟨m,n⟩:=H.ZU k l;exact⟨j,b',m1',m2',m,n⟩
end
def sW{F1 F2:List Pf}{f:Pf}(h:((F1++f :: F2).map (·.n)).Nodup):Jl f.n (F1++f :: F2)=F1++{ f with dirty:=false } :: F2:=by
 obtain⟨b,c,_⟩:=Fz h
 have a:∀ F:List Pf,(∀ q∈F,(q.n:Int)≠(f.n:Int))->F.map (λq=>if q.n=f.n then{ q with dirty:=false }else q)=F:=λF d=>by
  have:F.map (λq=>if q.n=f.n then{ q with dirty:=false }else q)=F.map id:=YC λq e=>by
   rw[AO (λg=>d q e (by rw[g]))];rfl
  rw[this,List.map_id]
 unfold Jl;rw[D9,DW,a F1 b,a F2 c,AC rfl]
def iW{F1 F2:List Pf}{f:Pf}(h:((F1++f :: F2).map (·.n)).Nodup):Vb f.n (F1++f :: F2)=f.s:=by
 obtain⟨a,_,_⟩:=Fz h;unfold Vb;rw[OJ1 (x:=((f.n:Nat):Int)) a rfl];rfl
def Zh(n:Nat)(F:List Pf):(Jl n F).map (·.n)=F.map (·.n):=by
 unfold Jl;rw[YB];refine YC λf _=>?_;show(if f.n=n then{ f with dirty:=false }else f).n=f.n
 split <;> rfl
def BE1{n:Nat}{F:List Pf}(h:∀ f∈F,f.s.size=1024):∀ f∈Jl n F,f.s.size=1024:=λf c=>by
 obtain⟨a,b,rfl⟩:=DI.1 c
 split
 ·exact h a b
 ·exact h a b
def Pl.ok.clean{P:Pl}(ok:P.ok){L':Lg}(b:L'.ok)(n:Nat):Pl.ok { P with L:=L',ring:=Jl n P.ring } :=
 ⟨b,by show ((Jl n P.ring).map (·.n)).Nodup;rw [Zh];exact ok.names,
  λf c=>by
   have a:f.n∈(Jl n P.ring).map (·.n):=DI.2 ⟨f,c,rfl⟩;rw[Zh]at a;obtain⟨d,e,g⟩:=DI.1 a;have:=ok.pages d e;show f.n<P.pages
   omega,BE1 ok.size,ok.most,by show(Jl n P.ring).length<=_;unfold Jl;rw[BZ];exact ok.full,ok.few,ok.link,ok.turnd,ok.turns⟩
def seenD(left:Lit->Bool)(f:Pf):Bool:=f.dirty && !left (.int .i64 f.n)
def ZV0{left:Lit->Bool}{F:List Pf}(h:∀ f∈F,left (.int .i64 f.n)=true):F.filter (seenD left)=[]:=VO.2 λf a=>by
 unfold seenD;rw[h f a];simp
def IR1{left:Lit->Bool}{F:List Pf}(h:∀ k,left k=false):F.filter (seenD left)=F.filter (·.dirty):=by
 congr 1;funext f;unfold seenD;rw[h];simp
def xZ{left:Lit->Bool}{f q:Pf}(h:(q.n:Int)≠(f.n:Int)):seenD (λz=>left z && !z.sameKey (.int .i64 (f.n:Int))) q=seenD left q:=by
 have a:(Lit.int .i64 (q.n:Int)).sameKey (.int .i64 (f.n:Int))=false:=sameKey_ne λe=>h (Lit.int.inj e).2;unfold seenD;dsimp only;rw[a];simp
def CV1 {left:Lit->Bool} {F1 F2:List Pf} {f:Pf} (h:((F1++f :: F2).map (·.n)).Nodup) (c:left (.int .i64 f.n)=true) :
 (((F1++f :: F2).filter (seenD (λz=>left z && !z.sameKey (.int .i64 (f.n:Int))))).map (·.n)).Perm ((((F1++f :: F2).filter (seenD left)).map (·.n))++(if f.dirty then [f.n]else [])):=by
 obtain⟨d,e,_⟩:=Fz h;have g:F1.filter (seenD (λz=>left z && !z.sameKey (.int .i64 (f.n:Int))))=F1.filter (seenD left):=List.filter_congr λq b=>xZ (d q b);have i:F2.filter (seenD (λz=>left z && !z.sameKey (.int .i64 (f.n:Int))))=F2.filter (seenD left):=List.filter_congr λq b=>xZ (e q b)
 have j:seenD left f=false:=by unfold seenD;rw[c];simp
 have k:seenD (λz=>left z && !z.sameKey (.int .i64 (f.n:Int))) f=f.dirty:=by
  unfold seenD;dsimp only;rw[WideAt.sameKey_self (a:=.int .i64 (f.n:Int)) trivial];simp
 rw[OT,OT,OQ,OQ,g,i,j,k]
 cases l:f.dirty
 ·simp
 ·simp only [if_true,if_false,Bool.false_eq_true,D9,DW,BU];exact Ab3 _ (VL (l₁:=[f.n]))
end Go.Proofs.YtjihboddejaelaaGreat
namespace Go.Proofs.YtjihboddejaelaaGreat
open Go.RowKit
def wt(P:Pl):Nat:=P.L.fs.length+(P.ring.filter (·.dirty)).length
def Bk.put(N:Bk)(x:Nat)(s:ByteArray):Bk:=⟨N.q,λm=>if m=x then s else N.K m⟩
def uO{F:List Pf}{g:Pf}{x:Nat}(a:g∈F)(b:g.n≠x):g∈Ns x F:=OO.2 ⟨a,by simpa using b⟩
def AA1{F:List Pf}{f g:Pf}(h:(F.map (·.n)).Nodup)(b:g∈F)(c:f∈F)(e:g.n=f.n):g=f:=by
 obtain⟨F1,F2,rfl⟩:=TI c;obtain⟨d,n2,_⟩:=Fz h
 rcases BO.1 b with a | a
 ·exact absurd (by omega) (d g a)
 ·rcases BI.1 a with a | a
  ·exact a
  ·exact absurd (by omega) (n2 g a)
def vJ{F:List Pf}{f:Pf}(h:(F.map (·.n)).Nodup)(a:f∈F):(Ns f.n F++[f]).Perm F:=by
 obtain⟨F1,F2,rfl⟩:=TI a;rw[Uj h];exact(List.perm_append_singleton f (F1++F2)).trans List.perm_middle.symm
def yS{F G:List Pf}(h:F.Perm G):(F.filter (·.dirty)).length=(G.filter (·.dirty)).length:=(h.filter _).length_eq
def ZQ0{F:List Pf}{f:Pf}(h:(F.map (·.n)).Nodup)(a:f∈F):(F.filter (·.dirty)).length=((Ns f.n F).filter (·.dirty)).length+(if f.dirty then 1 else 0):=by
 rw[<- yS (vJ h a),OT,A8]
 cases b:f.dirty <;> simp[OQ,b]
section
variable {P:Pl} {B N:Bk}
def Zu(x:Int):(P.get x).1.most=P.most/\(P.get x).1.pages=P.pages/\(P.get x).1.free=P.free/\(P.get x).1.turned=P.turned:=by
 obtain⟨a,b,c,d,e⟩:=Lj (P:=P);unfold Pl.get
 split
 ·split
  ·exact⟨rfl,rfl,rfl,rfl⟩
  ·split
   ·unfold Pl.fetch
    split <;> exact⟨a,b,c,d⟩
   ·exact⟨a,b,c,d⟩
 ·exact⟨rfl,rfl,rfl,rfl⟩
end
def IN1{l:Nat}(a:l<=65536):(Dj 4 l []).size=1024:=Rh (K:=4) (by omega) (by omega) (by omega) (by decide)
section
variable {P:Pl} {B N:Bk} {T:Nat->Option ByteArray}
end
def Pl.Bv(P:Pl):Pl×Int:=if Gj P.ring=[]then(if(P.get 0).2=0 then Pl.flush [0] (P.get 0).1 else P.get 0)else Pl.flush (Gj P.ring) P
def Td(P:Pl):P.Bi=if P.turned=[]then(P,0)else Pl.told P.Bv:=by
 unfold Pl.Bi Pl.Bv
 by_cases b:P.turned=[]
 ·rw[AC b,AC b]
 ·rw [AO b,AO b]
  by_cases c:Gj P.ring=[]
  ·rw [AC c,AC c];by_cases a:(P.get 0).2=0
   ·rw[AC a,AC a]
   ·rw [AO a,AO a];exact(AO a).symm
  ·rw[AO c,AO c]
def aT{F:List Pf}{n:Nat}{g:Pf}(h:g∈Jl n F):∃ f∈F,g.n=f.n/\g.s=f.s/\g.pins=f.pins/\(g.dirty=true->f.dirty=true/\f.n≠n):=by
 obtain⟨f,a,e⟩:=DI.1 h;refine⟨f,a, ?_⟩
 split at e
 ·rw[<- e];exact⟨rfl,rfl,rfl,λh=>by cases h⟩
 ·rename_i b;rw[<- e];exact⟨rfl,rfl,rfl,λh=>⟨h,b⟩⟩
def CR1{F:List Pf}{n:Nat}{f:Pf}(h:f∈F)(a:f.n≠n):f∈Jl n F:=DI.2 ⟨f,h,AO a⟩
section
variable {B N:Bk} {P:Pl} {T:Nat->Option ByteArray}
def tZ{P:Pl}(x:Int):∀ f∈(P.get x).1.ring,f.dirty=true->f∈P.ring:=by
 obtain⟨e,h,i,j,b⟩:=Lj (P:=P);unfold Pl.get
 split
 ·split
  ·rename_i f d;intro g a _
   rcases BO.1 a with a | a
   ·exact(Lp _ _).subset a
   ·rw [BH.1 a];exact YA d
  ·split
   ·unfold Pl.fetch
    split
    ·intro g a c
     rcases BO.1 a with a | a
     ·exact b g a
     ·rw[BH.1 a]at c;cases c
    ·exact λg a _=>b g a
   ·exact λg a _=>b g a
 ·exact λg a _=>a
def Um{F:List Pf}{n:Nat}:n∈Gj F↔∃ f∈F,f.dirty=true/\f.n=n:=by
 unfold Gj;rw[List.mem_mergeSort,DI];constructor
 ·rintro ⟨f,a,e⟩;exact⟨f,(OO.1 a).1,(OO.1 a).2,e⟩
 ·rintro ⟨f,a,b,e⟩;exact⟨f,OO.2 ⟨a,b⟩,e⟩
def aG{F:List Pf}(h:∀ f∈F,f.dirty=false):F.filter (·.dirty)=[]:=VO.2 λf a=>by rw[h f a];decide
end
variable {mf:Nat}
def dY{L:Lg}(h:Safe L){n:Nat}(m:n<=65536){t:ByteArray}(a:Jo L.D.l0 L.fs n t):(L.D.down=false->L.rw.Dy n=0/\L.rw.Fa n=t)/\(L.rw.Dy n≠0->L.D.down=true):=by
 have key:L.D.down=false->L.rw.Dy n=0/\L.rw.Fa n=t:=λc=>by
  obtain⟨g,i⟩:=fU h.ok c n;rw[<- g,<- i]
  have f:L.D.seen 0=L.D.l0:=by
   have:=Nu L.D.waits 0 0 L.D.l0;rw[Nl [1] L.D.waits 0 0 L.D.l0 h.waits0]at this;exact this.symm
  have d:0<=(n:Int)/\(n:Int)<=2147483647:=by omega
  have j:L.Dy n=if Aw L.fs n≠0 then 0 else if(n:Int)<((L.D.seen 0).length / 1024:Nat)then 0 else 7:=(AC d).trans (AO (by rw[c];decide));have k:L.Fa n=if Aw L.fs n≠0 then((L.fs[Aw L.fs n-1]?).map (·.text)).getD ⟨#[]⟩else if(n:Int)<((L.D.seen 0).length / 1024:Nat)then bsOf (Bc (L.D.seen 0) (1024*(n:Int).toNat) 1024)else⟨#[]⟩:=AC ⟨d.1,d.2,c⟩;rw[j,k,f];unfold Jo at a;by_cases b:Aw L.fs n≠0
  ·rw [AC b] at a;rw[AC b,AC b,a];exact⟨rfl,rfl⟩
  ·rw [AO b] at a;rw[AO b,AO b]
   have e:(n:Int)<(L.D.l0.length / 1024:Nat):=by have:=a.2;omega
   rw[AC e,AC e,IR];exact⟨rfl,a.1⟩
 refine⟨key,λl=>?_⟩
 cases c:L.D.down
 ·exact absurd (key c).1 l
 ·rfl
structure DU (mf:Nat) (P:Pl) (B N:Bk):Prop where
 ok:P.ok
 log:IZ mf P.L B
 pages:P.pages=N.q
 ring:∀ f∈P.ring,f.s=N.K f.n/\(f.dirty=true->f.n∈P.turned)
 lies:∀ n,n<N.q->(∀ f∈P.ring,f.n=n->f.dirty=false)->Jo P.L.D.l0 P.L.fs n (N.K n)
 same:∀ n,n<N.q->n∉P.turned->n<B.q/\N.K n=B.K n
 le:B.q<=N.q
section
variable {P:Pl} {B N:Bk}
def DU.up(h:DU mf P B N):∀ f∈P.ring,f.n<N.q/\f.n<=65536:=λf a=>by
 have b:=h.ok.pages f a;have c:=h.ok.few;have d:=h.pages;omega
def JD1(h:DU mf P B N)(x:wt P<=60000){f:Pf}(d:f∈P.ring):DU mf (P.Io f).1 B N/\wt (P.Io f).1<=wt P/\((P.Io f).2≠0->(P.Io f).2=2/\(P.Io f).1.L.D.down=true):=by
 have b:=qQ h.ok f;obtain⟨y,F⟩:=h.ring f d;obtain⟨G,z⟩:=h.up f d;have l:=ZQ0 h.ok.names d
 have w:P.L.fs.length<=60000:=by unfold wt at x;omega
 cases c:f.dirty
 ·have e:P.Io f=({ P with ring:=Ns f.n P.ring },0):=by unfold Pl.Io;rw [c];rfl
  rw[e]at b ⊢;rw[c]at l;refine⟨⟨b,h.log,h.pages,λg a=>h.ring g ((Lp _ _).subset a),λn i j=>h.lies n i λg a o=>?_,h.same,h.le⟩, ?_,λp=>absurd rfl p⟩
  ·by_cases r:g.n=f.n
   ·rw[AA1 h.ok.names a d r];exact c
   ·exact j g (uO a r) o
  ·show P.L.fs.length+((Ns f.n P.ring).filter (·.dirty)).length<=P.L.fs.length+(P.ring.filter (·.dirty)).length;rw[l];omega
 ·obtain ⟨t,u,H,I,A,C⟩:=iF h.log w z (h.ok.size f d);rw[c]at l;by_cases m:P.L.Dp f.n f.s=0
  ·obtain ⟨k,v,J⟩:=A m
   have e:P.Io f=({ P with L:=P.L.append f.n f.s,spills:=wrap64 (P.spills+1),ring:=Ns f.n P.ring },0):=by unfold Pl.Io;rw[c,AC rfl,AC m]
   rw[e]at b ⊢;refine⟨⟨b,t,h.pages,λg a=>h.ring g ((Lp _ _).subset a),λn i j=>?_,h.same,h.le⟩, ?_,λp=>absurd rfl p⟩
   ·show Jo (P.L.append f.n f.s).D.l0 (P.L.append f.n f.s).fs n _;rw[k,u];by_cases q:n=f.n
    ·subst q;rw[<- y];exact Xv
    ·exact Zb (h.lies n i λg a o=>j g (uO a (by omega)) o) q
   ·show (P.L.append f.n f.s).fs.length+((Ns f.n P.ring).filter (·.dirty)).length<=P.L.fs.length+(P.ring.filter (·.dirty)).length;rw[k,l,A8,JB,AC rfl];omega
  ·obtain ⟨E,k,v⟩:=C m
   have e:P.Io f=({ P with L:=P.L.append f.n f.s },P.L.Dp f.n f.s):=by unfold Pl.Io;rw[c,AC rfl,AO m]
   rw[e]at b ⊢;refine⟨⟨b,t,h.pages,h.ring,λn i j=>?_,h.same,h.le⟩, ?_,λ_=>⟨E,v⟩⟩
   ·show Jo (P.L.append f.n f.s).D.l0 (P.L.append f.n f.s).fs n _;rw[k,u];exact h.lies n i j
   ·show (P.L.append f.n f.s).fs.length+_<=_;rw[k];exact AY _
def eP(h:DU mf P B N)(e:wt P<=60000):DU mf P.room.1 B N/\wt P.room.1<=wt P/\(P.room.2≠0->P.room.2=6\/(P.room.2=2/\P.room.1.L.D.down=true)):=by
 unfold Pl.room
 split
 ·exact⟨h,AY _,λd=>absurd rfl d⟩
 ·split
  ·exact⟨h,AY _,λ_=>.inl rfl⟩
  ·rename_i f g;obtain⟨a,b,c⟩:=JD1 h e (YA g);exact⟨a,b,λd=>.inr (c d)⟩
def Err(E:Int)(P:Pl):Prop:=E≠0->E≠2\/P.L.D.down=true
def UG(h:DU mf P B N)(t:wt P<=60000)(x:Int):DU mf (P.get x).1 B N/\wt (P.get x).1<=wt P/\Err (P.get x).2 (P.get x).1:=by
 have a:=Yo h.ok x;have F:=h.pages;have G:=h.ok.few;unfold Pl.get at a ⊢;by_cases q:0<=x/\x<(P.pages:Int)
 ·rw [AC q] at a ⊢
  split
  ·rename_i f e;rw[e]at a;dsimp only at a;have u:f∈P.ring:=YA e;have j:=vJ h.ok.names u;refine⟨⟨a,h.log,h.pages,λg k=>h.ring g (j.mem_iff.1 k),λn l m=>h.lies n l (λg k=>m g (j.mem_iff.2 k)),h.same,h.le⟩, ?_,λd=>absurd rfl d⟩;show P.L.fs.length+((Ns f.n P.ring++[f]).filter (·.dirty)).length<=P.L.fs.length+(P.ring.filter (·.dirty)).length;rw[yS j];exact AY _
  ·rename_i e;rw[e]at a;dsimp only at a;obtain⟨c,o,v⟩:=eP h t;obtain⟨H,I,J,K,w⟩:=Lj (P:=P)
   obtain⟨y,rfl⟩:∃ y:Nat,x=y:=⟨x.toNat,by omega⟩
   by_cases p:P.room.2=0
   ·rw [AC p] at a ⊢
    have r:∀ f∈P.room.1.ring,f.n≠y:=λf b=>by have:=aX e f (w f b);omega
    generalize P.room.1=R at *;have z:=c.lies y (by omega) (λf b s=>absurd s (r f b));obtain⟨A,C⟩:=dY c.log.safe (by omega) z;unfold Pl.fetch at a ⊢;rw[IR]at a ⊢;by_cases i:R.L.rw.Dy y=0
    ·rw [AC i] at a ⊢;obtain⟨_,D⟩:=A (DY1 i);refine⟨⟨a,c.log,c.pages,λf b=>?_,λn l m=>c.lies n l (λf b=>m f (BL _ b)),c.same,c.le⟩, ?_,λd=>absurd rfl d⟩
     ·rcases BO.1 b with b | b
      ·exact c.ring f b
      ·rw [BH.1 b];exact⟨D,λd=>by cases d⟩
     ·show R.L.fs.length+((R.ring++[_]).filter (λf:Pf=>f.dirty)).length<=_;rw[OT,A8];refine BN ?_ o;unfold wt;simp[OQ]
    ·rw [AO i] at a ⊢;exact⟨c,o,λ_=>.inr (C i)⟩
   ·rw [AO p] at a ⊢;exact⟨c,o,λ_=>(v p).imp (λE=>by rw[E];decide) (λd=>d.2)⟩
 ·rw [AO q];exact⟨h,AY _,λ_=>.inl (by show(7:Int)≠2;decide)⟩
def vV(h:DU mf P B N)(b:wt P<=60000){x:Int}(c:(P.get x).2=0):0<=x/\x<(N.q:Int)/\(P.get x).1.Pv.s=N.K x.toNat:=by
 obtain⟨d,_,_⟩:=UG h b x;obtain⟨g,f,a,i,e,j⟩:=Qb h.ok c;have k:=h.pages;refine⟨e,by omega, ?_⟩;rw[(Xq a).1];have:=(d.ring f (by rw[a];simp)).1;rw[this]
 congr 1
 omega
def YW (h:DU mf P B N) (G:wt P<=60000) (x:Int) {s:ByteArray} (H:s.size=1024) :
 ((P.put x s).2=0->0<=x/\x<(N.q:Int)/\DU mf (P.put x s).1 B (N.put x.toNat s))/\((P.put x s).2≠0->DU mf (P.put x s).1 B N)/\wt (P.put x s).1<=wt P+1/\(P.put x s).1.free=P.free/\Err (P.put x s).2 (P.put x s).1:=by
 obtain⟨c,r,I⟩:=UG h G x;obtain⟨S,T,t,U⟩:=Zu (P:=P) x;have j:=lG h.ok x H;by_cases i:(P.get x).2=0
 ·obtain ⟨J,f,d,M,O,V⟩:=Qb h.ok i;have e:=put_eq (s:=s) i d M;have W:=h.pages
  obtain⟨y,rfl⟩:∃ y:Nat,x=y:=⟨x.toNat,by omega⟩
  have o:f.n=y:=by omega
  rw[e]at j ⊢;rw[IR];generalize (P.get y).1=R at *;have u:=c.ok.names;rw[d]at u;obtain⟨Q,_,_⟩:=Fz (F2:=[]) u;refine⟨λ_=>⟨O,by omega,⟨j,c.log,c.pages,λg a=>?_,λn k v=>?_,λn k E=>?_,c.le⟩⟩,λb=>absurd rfl b, ?_,t,λb=>absurd rfl b⟩
  ·show g.s=(if g.n=y then s else N.K g.n)/\(g.dirty=true->g.n∈Vq f.n R.turned)
   have F:∀ z,z∈R.turned->z∈Vq f.n R.turned:=λz w=>by
    unfold Vq;split
    ·exact w
    ·exact BF _ w
   rcases BO.1 a with a | a
   ·have A:=c.ring g (by rw [d];exact BL _ a);rw[AO (by have:=Q g a;omega)];exact⟨A.1,λb=>F _ (A.2 b)⟩
   ·rw [BH.1 a];refine⟨(AC o).symm,λ_=>?_⟩;show f.n∈Vq f.n R.turned
    unfold Vq;split
    ·assumption
    ·exact AZ ..
  ·show Jo R.L.D.l0 R.L.fs n (if n=y then s else N.K n)
   have l:n≠y:=λC=>by
    have:(true:Bool)=false:=v { f with s:=s,dirty:=true } (BC _ (BH.2 rfl)) (by show f.n=n;omega)
    cases this
   rw[AO l];refine c.lies n k λg a p=>?_;rw[d]at a
   rcases BO.1 a with a | a
   ·exact v g (BL _ a) p
   ·rw[BH.1 a]at p;omega
  ·show n<B.q/\(if n=y then s else N.K n)=B.K n;have m:n∉Vq f.n R.turned:=E
   have l:n≠y:=λC=>m (by
    rw[C,<- o];unfold Vq;split
    ·assumption
    ·exact AZ ..)
   rw[AO l];refine c.same n k λb=>m ?_
   unfold Vq;split
   ·exact b
   ·exact BF _ b
  ·show R.L.fs.length+((J++[_]).filter (λf:Pf=>f.dirty)).length<=_;refine BN ?_ (mV r);unfold wt;rw[d,OT,OT,A8,A8];simp[OQ];omega
 ·have e:P.put x s=P.get x:=AO i;rw[e]at j ⊢;exact⟨λb=>absurd b i,λ_=>c,VH r,t,I⟩
end
end Go.Proofs.YtjihboddejaelaaGreat
namespace Go.Proofs.YtjihboddejaelaaGreat
open Go.RowKit
variable {mf:Nat}
structure Root (N:Bk) (free:Nat):Prop where
 pos:1<=N.q
 text:N.K 0=Dj 4 free []
 le:free<=2147483647
def jX{l:Nat}(a:l<=2147483647):Ie (Dj 4 l [])=some (4,l,[]):=by
 have h:1<=4/\4<=5/\l<=2147483647/\Ce []<=1012:=⟨by omega,by omega,a,by decide⟩
 exact Nz.2 ⟨h.1,h.2.1,h.2.2.1,h.2.2.2,(Rn h).symm⟩
def JG1{l:Nat}(a:l<=2147483647):(Dj 4 l []).size=1024:=Rh (K:=4) (by omega) (by omega) a (by decide)
def kC{l:Nat}(a:l<=2147483647):(Dj 3 l []).size=1024:=Rh (K:=3) (by omega) (by omega) a (by decide)
def Root.put{N:Bk}{free:Nat}(h:Root N free){x:Nat}(a:x≠0)(s:ByteArray):Root (N.put x s) free :=
 ⟨h.pos,by show(if 0=x then s else N.K 0)=_;rw[AO (OJ a)];exact h.text,h.le⟩
def KY1{N:Bk}{n:Nat}(h:1<=N.q)(a:n<=2147483647):Root (N.put 0 (Dj 4 n [])) n:=⟨h,rfl,a⟩
section
variable {P:Pl} {B N:Bk} {W:Nat}
def DU.Z8(h:DU mf P B N){n:Nat}(a:n<=2147483647):DU mf { P with free:=n } B N :=
 ⟨⟨h.ok.log,h.ok.names,h.ok.pages,h.ok.size,h.ok.most,h.ok.full,h.ok.few,a,h.ok.turnd,h.ok.turns⟩,h.log,h.pages,h.ring,h.lies,h.same,h.le⟩
def JX1(h:DU mf P B N)(r:Root N P.free)(a:wt P<=60000)(x:Int):DU mf (P.get x).1 B N/\Root N (P.get x).1.free/\wt (P.get x).1<=wt P:=by
 obtain⟨b,c,_⟩:=UG h a x;exact⟨b,by rw[(Zu x).2.2.1];exact r,c⟩
def DU.Vb(h:DU mf P B N){n:Nat}(g:n∈P.ring.map (·.n)):Vb n P.ring=N.K n/\(N.K n).size=1024/\n<N.q/\n<=65536:=by
 obtain⟨f,a,rfl⟩:=DI.1 g;have b:=h.ring f a;have c:=h.up f a;have i:=h.ok.size f a;obtain⟨F1,F2,e⟩:=TI a;have d:=h.ok.names;rw[e]at d;refine⟨?_,by rw[<- b.1];exact i,c.1,c.2⟩;rw[e,iW d];exact b.1
def Uc:∀ (a:List Nat) (P:Pl),a≠[]->DU mf P B N->(∀ f∈P.ring,f.dirty=true->f.n∈a)->(∀ n∈a,n∈P.ring.map (·.n))->P.L.fs.length+a.length<=min 60000 mf->1<=N.q ->
 ((Pl.flush a P).2=0->DU mf (Pl.flush a P).1 N N/\(∀ f∈(Pl.flush a P).1.ring,f.dirty=false)/\(Pl.flush a P).1.L.fs.length=P.L.fs.length+a.length/\(Pl.flush a P).1.L.kept=(Pl.flush a P).1.L.fs.length/\(Pl.flush a P).1.free=P.free/\(Pl.flush a P).1.L.D.down=false)/\((Pl.flush a P).2≠0->(Pl.flush a P).2=2/\KH mf (Pl.flush a P).1.L.D B N)
 | [],P,h,_,_,_,_,_=>absurd rfl h
 | [n],P,_,h,hd,hm,hw,hq=>by
   obtain⟨y,z,S,A⟩:=h.Vb (hm n (BH.2 rfl))
   have G:Om mf P.L.D.l0 N (P.L.fs++[⟨n,N.K n⟩]) P.pages:=⟨⟨h.pages,by simp only[DF,cZ,A8]at hw ⊢;omega⟩,λm o=>by
    by_cases e:m=n
    ·rw[e];exact Xv
    ·refine Zb (h.lies m o λf d aa=>?_) e
     cases Q:f.dirty
     ·rfl
     ·have:=BH.1 (hd f d Q)
      omega⟩
   have ab:=h.pages;have O:=h.ok.few;obtain⟨T,U⟩:=oU h.log (by simp at hw;omega) A (p:=P.pages) ⟨by omega,O⟩ z G;unfold Pl.flush;rw[y];by_cases c:P.L.Ez n (N.K n) P.pages=0
   ·rw [AC c];obtain⟨v,V,w,W,H⟩:=T c;have x:=h.ok.clean (L':=P.L.Bi n (N.K n) P.pages) (aS h.ok.log _ _ _) n;refine⟨λ_=>⟨⟨x,v,h.pages,λg l=>?_,λm o I=>?_,λm o _=>⟨o,rfl⟩,AY _⟩,λg l=>?_, ?_, ?_,rfl,H⟩,λb=>absurd rfl b⟩
    ·obtain ⟨f,d,i,s,C,j⟩:=aT l;have t:=h.ring f d;exact⟨by rw[i,s];exact t.1,λb=>by rw[i];exact t.2 (j b).1⟩
    ·show Jo (P.L.Bi n (N.K n) P.pages).D.l0 (P.L.Bi n (N.K n) P.pages).fs m _;rw[w,V];exact G.2 m o
    ·obtain ⟨f,d,i,s,C,j⟩:=aT l
     cases u:g.dirty
     ·rfl
     ·exact absurd (BH.1 (hd f d (j u).1)) (j u).2
    ·show (P.L.Bi n (N.K n) P.pages).fs.length=_;rw[w];simp
    ·show (P.L.Bi n (N.K n) P.pages).kept=(P.L.Bi n (N.K n) P.pages).fs.length;rw[W,w];simp
   ·rw [AO c];exact⟨λb=>absurd b c,λ_=>U c⟩
 | n :: m :: r,P,_,h,hd,hm,hw,hq=>by
   obtain⟨y,z,S,A⟩:=h.Vb (hm n (AZ ..));obtain⟨v,X,w,H,Y,J⟩:=iF h.log (by simp at hw;omega) A z;unfold Pl.flush;rw[y];by_cases c:P.L.Dp n (N.K n)=0
   ·rw [AC c];obtain⟨E,b2,b3⟩:=Y c;have x:=h.ok.clean (L':=P.L.append n (N.K n)) (Na h.ok.log _ _) n
    have Z:DU mf { P with L:=P.L.append n (N.K n),ring:=Jl n P.ring } B N:=⟨x,v,h.pages,λg l=>by
     obtain⟨f,d,i,s,C,j⟩:=aT l;have t:=h.ring f d
     exact⟨by rw[i,s];exact t.1,λb=>by rw[i];exact t.2 (j b).1⟩,λk F I=>by
     show Jo (P.L.append n (N.K n)).D.l0 (P.L.append n (N.K n)).fs k _;rw[E,X];by_cases e:k=n
     ·rw[e];exact Xv
     ·exact Zb (h.lies k F λf d R=>I f (CR1 d (by omega)) R) e,h.same,h.le⟩
    have M:=Uc (m :: r) { P with L:=P.L.append n (N.K n),ring:=Jl n P.ring } (by simp) Z (λg l u=>by
     obtain⟨f,d,i,s,C,j⟩:=aT l;obtain⟨f1,f2⟩:=j u
     rcases BI.1 (hd f d f1)with b | b
     ·exact absurd b f2
     ·rw[i];exact b) (λk F=>by
     show k∈(Jl n P.ring).map (·.n)
     rw[Zh];exact hm k (BF _ F)) (by
     show(P.L.append n (N.K n)).fs.length+_<=_
     rw[E];simp at hw ⊢;omega) hq
    refine⟨λb=>?_,M.2⟩;obtain⟨i1,i2,i3,ik,i4,i5⟩:=M.1 b;refine⟨i1,i2,i3.trans ?_,ik,i4,i5⟩;show(P.L.append n (N.K n)).fs.length+_=_;rw[E];simp;omega
   ·rw [AO c];exact⟨λb=>absurd b c,λ_=>⟨(J c).1,v.lost (J c).2.2 N⟩⟩
def DU.oM{P:Pl}{N:Bk}(h:DU mf P N N)(c:∀ f∈P.ring,f.dirty=false):DU mf { P with turned:=[] } N N :=
 ⟨⟨h.ok.log,h.ok.names,h.ok.pages,h.ok.size,h.ok.most,h.ok.full,h.ok.few,h.ok.link,VM,λx d=>by cases d⟩,h.log,h.pages,λf a=>⟨(h.ring f a).1,λb=>by rw[c f a]at b;cases b⟩,h.lies,λn e _=>⟨e,rfl⟩,AY _⟩
def TN0{L:Lg}{D:Dk}(a:(L.Gs D).2=0):(L.Gs D).1.fs=[]:=by
 unfold Lg.Gs at a ⊢;by_cases b:D.IM 0 (1024*L.pages:Nat)≠0
 ·rw[AC b]at a;exact absurd a b
 ·rw [AO b] at a ⊢;by_cases d:(D.Fp 0 (1024*L.pages:Nat)).stops
  ·rw[AC d]at a;cases a
  ·rw [AO d] at a ⊢;dsimp only at a ⊢;by_cases c:({ L with D:=(D.Fp 0 (1024*L.pages:Nat)).sync 0 }:Lg).Eb 0 L.pages=0
   ·rw[AC c]
   ·rw[AO c]at a;exact absurd a c
def ZK0{L:Lg}(c:¬ L.fs.length≠L.kept)(e:0<L.fs.length)(a:L.Ah.2=0):L.Ah.1.fs.length<=0:=by
 unfold Lg.Ah at a ⊢;have d:¬ L.kept=0:=λh=>c (by omega);rw[AO c,AO d]at a ⊢;by_cases b:(L.puts L.pages 0 L.D).2≠0
 ·rw[AC b]at a;exact absurd a b
 ·rw [AO b] at a ⊢;rw[TN0 a];exact AY _
def DI0{L:Lg}(ok:L.ok)(e:L.pages<=65536)(a:L.Ah.2=11):L.fs.length≠L.kept:=λd=>by
 unfold Lg.Ah at a;rw[AO (λh=>h d)]at a;by_cases c:L.kept=0
 ·rw[AC c]at a;cases a
 ·rw [AO c] at a;by_cases b:(L.puts L.pages 0 L.D).2≠0
  ·rw [AC b] at a;have:=(jH ok L.pages 0 L.D (by omega)).resolve_left b
   dsimp only at a;rw[this]at a;cases a
  ·rw [AO b] at a;exact IC1 a
def DU.checked {P:Pl} {N:Bk} (h:DU mf P N N) (k:P.turned=[]) (l:∀ f∈P.ring,f.dirty=false) :
 ((P.L.Ah.2=0\/P.L.Ah.2=11)->DU mf { P with L:=P.L.Ah.1 } N N/\wt { P with L:=P.L.Ah.1 }<=wt P)/\(¬(P.L.Ah.2=0\/P.L.Ah.2=11)->P.L.Ah.2=2/\KH mf P.L.Ah.1.D N N):=by
 obtain⟨e,g⟩:=NO1 h.log;refine⟨λi=>?_,g⟩;obtain⟨a,b,c⟩:=e i;refine⟨⟨⟨MR0 h.ok.log,h.ok.names,h.ok.pages,h.ok.size,h.ok.most,h.ok.full,h.ok.few,h.ok.link,h.ok.turnd,h.ok.turns⟩,a,h.pages,h.ring,λn d j=>c n d _ (h.lies n d j),h.same,h.le⟩, ?_⟩;exact Nat.add_le_add_right b _
def yK{F:List Pf}(h:Gj F=[]):∀ f∈F,f.dirty=false:=λf a=>by
 cases b:f.dirty
 ·rfl
 ·have:=Um.2 ⟨f,a,b,rfl⟩
  rw[h]at this;cases this
def EC0 (h:DU mf P B N) (u:wt P<=50000) (t:wt P+1<=mf) (v:1<=N.q) :
 (P.Bv.2=0->DU mf P.Bv.1 N N/\(∀ f∈P.Bv.1.ring,f.dirty=false)/\P.Bv.1.L.fs.length<=wt P+1/\P.Bv.1.L.kept=P.Bv.1.L.fs.length/\P.Bv.1.free=P.free/\P.Bv.1.L.D.down=false) /\
 (P.Bv.2≠0->(DU mf P.Bv.1 B N/\wt P.Bv.1<=wt P/\P.Bv.1.free=P.free/\Err P.Bv.2 P.Bv.1)\/(P.Bv.2=2/\KH mf P.Bv.1.L.D B N)):=by
 unfold Pl.Bv
 by_cases d:Gj P.ring=[]
 ·rw [AC d];have A:=yK d;obtain⟨w,i,E⟩:=UG h (by omega) 0;obtain⟨G,H,x,I⟩:=Zu (P:=P) 0;by_cases g:(P.get 0).2=0
  ·rw [AC g];obtain⟨J,f,F,y,_,_⟩:=Qb h.ok g
   obtain⟨j,k⟩:=Uc [0] (P.get 0).1 (by simp) w (λf b c=>by have:=A f (tZ 0 f b c);rw[this]at c;cases c) (λn C=>by
    rw[BH.1 C,F]
    exact DI.2 ⟨f,BC _ (BH.2 rfl),by omega⟩) (by unfold wt at i u t;simp;omega) v
   refine⟨λa=>?_,λa=>.inr (k a)⟩;obtain⟨l,m,o,p,r,s⟩:=j a;refine⟨l,m, ?_,p,r.trans x,s⟩;rw[o];unfold wt at i ⊢;simp;omega
  ·rw [AO g];exact⟨λa=>absurd a g,λ_=>.inl ⟨w,i,x,E⟩⟩
 ·rw [AO d]
  have z:(Gj P.ring).length=(P.ring.filter (·.dirty)).length:=by unfold Gj;rw[dA,BZ]
  obtain⟨j,k⟩:=Uc (Gj P.ring) P d h (λf b c=>Um.2 ⟨f,b,c,rfl⟩) (λn y=>by
   obtain⟨f,b,_,e⟩:=Um.1 y
   exact DI.2 ⟨f,b,e⟩) (by rw[z];unfold wt at u t;omega) v
  refine⟨λa=>?_,λa=>.inr (k a)⟩;obtain⟨l,m,o,p,r,s⟩:=j a;refine⟨l,m, ?_,p,r,s⟩;rw[o,z];unfold wt;omega
def UN0 (h:DU mf P B N) (r:Root N P.free) (F:wt P<=50000) (v:wt P+1<=mf) :
 (P.Bi.2=0->DU mf P.Bi.1 N N/\Root N P.Bi.1.free/\(wt P.Bi.1<=wt P+1)/\(P.turned≠[]->wt P.Bi.1<=1000)) /\
 (P.Bi.2≠0->(DU mf P.Bi.1 B N/\Root N P.Bi.1.free/\wt P.Bi.1<=wt P/\Err P.Bi.2 P.Bi.1)\/(P.Bi.2=2/\KH mf P.Bi.1.L.D B N)\/(P.Bi.2=2/\KH mf P.Bi.1.L.D N N)):=by
 rw[Td]
 by_cases i:P.turned=[]
 ·rw [AC i];refine⟨λ_=>⟨?_,r,EZ _,λe=>absurd i e⟩,λe=>absurd rfl e⟩;have o:∀ n,n<N.q->n<B.q/\N.K n=B.K n:=λn f=>h.same n f (by rw[i];simp);have x:B.q=N.q:=Nat.le_antisymm h.le (Nat.le_of_not_lt λe=>by have:=(o B.q e).1;omega);exact⟨h.ok,⟨h.log.safe,⟨⟨h.log.kept.1.1.trans x,h.log.kept.1.2⟩,λn f=>by rw[(o n f).2];exact h.log.kept.2 n (by omega)⟩,by have:=h.log.few;omega⟩,h.pages,h.ring,h.lies,λn f _=>⟨f,rfl⟩,AY _⟩
 ·rw [AO i];obtain⟨y,z⟩:=EC0 h (by omega) v r.pos;generalize P.Bv=R at *;unfold Pl.told;by_cases g:R.2=0
  ·rw [AC g];obtain⟨j,k,p,A,s,G⟩:=y g;have t:=j.oM k
   have wr:wt { R.1 with turned:=[] }=R.1.L.fs.length:=by
    show R.1.L.fs.length+(R.1.ring.filter (·.dirty)).length=_;rw[aG k];rfl
   by_cases u:1000<=R.1.L.fs.length
   ·rw [AC u];obtain⟨C,E⟩:=t.checked rfl k;have m:¬ R.1.L.fs.length≠R.1.L.kept:=λe=>e A.symm;refine⟨λe=>?_,λe=>?_⟩
    ·obtain ⟨a,b⟩:=C (.inl e);have H:R.1.L.Ah.1.fs.length<=0:=ZK0 m (by omega) e;refine⟨a,by show Root N R.1.free;rw[s];exact r, ?_,λ_=>?_⟩
     ·exact BN b (by rw[wr];exact p)
     ·show R.1.L.Ah.1.fs.length+(R.1.ring.filter (·.dirty)).length<=_;rw[aG k];show R.1.L.Ah.1.fs.length+0<=_;omega
    ·have w:R.1.L.Ah.2≠11:=λl=>m (DI0 j.log.safe.ok (by have:=j.log.kept.1.1;have:=j.log.few;omega) l);exact .inr (.inr (E (λl=>l.elim e w)))
   ·rw [AO u];refine⟨λ_=>⟨t,by show Root N R.1.free;rw[s];exact r,by rw[wr];exact p,λ_=>by rw[wr];omega⟩,λe=>absurd rfl e⟩
  ·rw [AO g];refine⟨λe=>absurd e g,λ_=>?_⟩
   rcases z g with⟨a,b,c,d⟩ | e
   ·exact .inl ⟨a,by rw[c];exact r,b,d⟩
   ·exact .inr (.inl e)
def zB(h:DU mf P B N):DU mf P.rolled B B/\wt P.rolled<=wt P:=by
 have i:=h.log.kept.1.1;have r:=h.le;have s:=h.pages;have p:=h.ok.few
 have b:∀ f∈P.rolled.ring,f∈P.ring/\f.n∉P.turned:=λf a=>by
  have j:=OO.1 a;exact⟨j.1,by simpa using j.2⟩
 have e:∀ f∈P.rolled.ring,f.n<B.q/\N.K f.n=B.K f.n:=λf a=>h.same f.n (h.up f (b f a).1).1 (b f a).2
 have g:∀ f∈P.rolled.ring,f.dirty=false:=λf a=>by
  cases l:f.dirty
  ·rfl
  ·exact absurd ((h.ring f (b f a).1).2 l) (b f a).2
 have d:P.rolled.ring.Sublist P.ring:=Aa8;refine⟨⟨⟨FE1 h.ok.log,(d.map _).nodup h.ok.names,λf a=>?_,λf a=>h.ok.size f (b f a).1,h.ok.most,BN d.length_le h.ok.full, ?_,h.ok.link,VM,λx m=>by cases m⟩,OS1 h.log,i,λf a=>?_,λn c _=>h.log.kept.2 n c,λn c _=>⟨c,rfl⟩,AY _⟩, ?_⟩
 ·show f.n<P.L.pages;rw[i];exact(e f a).1
 ·show P.L.pages<=65536;omega
 ·obtain ⟨o,t⟩:=h.ring f (b f a).1;exact⟨o.trans (e f a).2,λk=>by rw[g f a]at k;cases k⟩
 ·show (P.L.fs.take P.L.kept).length+(P.rolled.ring.filter (·.dirty)).length<=_;rw[aG g,CU];unfold wt;simp;omega
end
end Go.Proofs.YtjihboddejaelaaGreat
namespace Go.Proofs.YtjihboddejaelaaGreat
open Go.RowKit
variable {mf:Nat}
section
variable {P:Pl} {B N:Bk}
def DU.still(h:DU mf P B N)(b:P.turned=[]):DU mf P N N/\∀ f∈P.ring,f.dirty=false:=by
 have c:∀ n,n<N.q->n<B.q/\N.K n=B.K n:=λn a=>h.same n a (by rw[b];simp);have d:B.q=N.q:=Nat.le_antisymm h.le (Nat.le_of_not_lt λe=>by have:=(c B.q e).1;omega);refine⟨⟨h.ok,⟨h.log.safe,⟨⟨h.log.kept.1.1.trans d,h.log.kept.1.2⟩,λn a=>by rw[(c n a).2];exact h.log.kept.2 n (by omega)⟩,by have:=h.log.few;omega⟩,h.pages,h.ring,h.lies,λn a _=>⟨a,rfl⟩,AY _⟩,λf g=>?_⟩
 cases i:f.dirty
 ·rfl
 ·have:=(h.ring f g).2 i
  rw[b]at this;cases this
end
end Go.Proofs.YtjihboddejaelaaGreat
namespace Go.Proofs.YtjihboddejaelaaGreat
open Go.RowKit Go.BigFrame
section
variable {w w':World} {b b' c c':List (Option Nat)} {rd r:Nat} {L L':Lg}
end
end Go.Proofs.YtjihboddejaelaaGreat
