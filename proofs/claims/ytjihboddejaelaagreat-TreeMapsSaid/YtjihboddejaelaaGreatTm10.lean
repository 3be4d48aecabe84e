/-
  page.Open.
-/
import Derived.Test.YtjihboddejaelaaGreatTm1
import Derived.Test.YtjihboddejaelaaGreatTm7
import Derived.Deep.RegionLaw
import Derived.Deep.AppendLies
import Derived.Deep.DrawnRows
import Derived.Test.YtjihboddejaelaaGreatTm9
import Derived.Test.YtjihboddejaelaaGreatTm5
import Derived.Test.YtjihboddejaelaaGreatTm8
set_option linter.unusedVariables false
set_option linter.unusedSimpArgs false
set_option linter.defProp false
set_option maxRecDepth 100000
set_option maxHeartbeats 100000000
namespace Go.Proofs.YtjihboddejaelaaGreat
open Go.RowKit Go.BigFrame
attribute [local go_sem] Ea Bz Bq Act.put
def yT(w:World)(o:Option Pg)(a:Value)(e:Ending)(w':World):Prop :=
 match o with
 | none=>e = .returned (.tuple #[.agg #[.int .i64 0,.int .i64 0,.slice none 0 0],a])/\Below w.heap.size w w'
 | some p=>∃ A c,e = .returned (.tuple #[.agg #[.int .i64 p.1,.int .i64 p.2.1,.slice A p.2.2.length c],.int .i64 0])/\SS w' A p.2.2.length p.2.2/\Below w.heap.size w w'
def ZB0{s:ByteArray}(h:s.size≠1024):Ie s=none:=by unfold Ie;rw[AC (.inl h)]
def GX1{s:ByteArray}(h:Wj s.data.toList 0≠I5 (s.data.toList.drop 4)):Ie s=none:=by unfold Ie;rw[AC (.inr (.inl h))]
def SL0{s:ByteArray}(h:1024<12+2*Hq s.data.toList 6):Ie s=none:=by unfold Ie;rw[AC (.inr (.inr h))]
def IW1{s:ByteArray}(a:s.size=1024)(b:Wj s.data.toList 0=I5 (s.data.toList.drop 4))(c:¬ 1024<12+2*Hq s.data.toList 6):Ie s=NS s (Hq s.data.toList 6):=by
 unfold Ie;rw[AO];rintro(h | h | h);exact h a;exact h b;exact c h
def MT0{s:ByteArray}(h:s.size=1024):(s.extract 4 1024).data.toList=s.data.toList.drop 4:=by
 rw[RG,EE (by simp;omega)]
def zA{s:ByteArray}{i:Nat}(h:Pn s i=none):∀ n,i<=n->Pn s n=none:=by
 intro n a
 induction a with
 | refl=>exact h
 | @step m _ ih=>rw[Pn,ih];rfl
def FU0 {s:ByteArray} (b:s.size<=1048576):∀ {i:Nat} {cs:List ByteArray},Pn s i=some cs->cs.length=i/\Ce cs<=2000*i
 | 0,cs,h=>by injection h with h;subst h;exact⟨rfl,by simp[Ce]⟩
 | i+1,cs,h=>by
   rw[Pn]at h;obtain⟨c0,c,a⟩:=Option.bind_eq_some_iff.1 h;obtain⟨l1,l2⟩:=FU0 b c
   split at a
   ·cases a
   ·rename_i d
    injection a with a
    subst a;refine⟨by simp[l1], ?_⟩;rw[yB];simp only[TJ];omega
def GH0{s:ByteArray}{i:Nat}{cs:List ByteArray}{a:Nat}(h:Pn s i=some cs)(b:Hq s.data.toList (12+2*i)=a)(c:1024<a+2\/1024<a+2+Hq s.data.toList a):Pn s (i+1)=none:=by
 subst b;rw[Pn,h,bV,AC c]
def VI0{s:ByteArray}{i:Nat}{cs:List ByteArray}{a m:Nat}(h:Pn s i=some cs)(b:Hq s.data.toList (12+2*i)=a)(c:Hq s.data.toList a=m)(d:¬ 1024<a+2)(e:¬ 1024<a+2+m):Pn s (i+1)=some (cs++[s.extract (a+2) (a+2+m)]):=by
 subst b c;rw[Pn,h,bV,AO (by rintro(h | h);exact d h;exact e h)]
def strs(l:List ByteArray):List Value:=l.map Value.string
def lH:(Tryz.prog.info? 9).map (λi=>(i.zero,i.size,i.bytes))=some (some (.string ⟨#[]⟩),1,16):=by kernel_rfl
def SS.Ed{w:World}{a:Nat}{e:TypeId}{A:Option Addr}{n c:Nat}{l:List ByteArray}(h:w.ownsRow a e 1 (.slice A n c) n (strs l)):SS w A n l:=by
 have d:l.length=n:=by have:=h.1;simp[strs]at this;exact this
 refine⟨d,λo=>?_⟩
 rcases h.2 with⟨p,q⟩ |⟨g,cap,k,f,r,b,m,_⟩
 ·omega
 ·cases f
  refine⟨g,0,rfl,(LK.1 b).1,λi u j=>?_⟩;have:=h.cells (g:=g) rfl i (.string u) (by simp[strs,j]);rw[addr_add]at this;exact this
def own_below{w w':World}{a:Nat}{e:TypeId}{b:Nat}{v:Value}{n:Nat}{xs:List Value}(h:w.ownsRow a e b v n xs)(i:Below w.heap.size w w'):w'.ownsRow a e b v n xs:=by
 refine⟨h.1, ?_⟩
 rcases h.2 with h |⟨g,cap,d,j,f,c,r⟩
 ·exact .inl h
 ·exact .inr ⟨g,cap,d,j,f,(i.block g (LK.1 c).1).trans c,r⟩
def own_ne{w:World}{a:Nat}{e:TypeId}{b:Nat}{v:Value}{n:Nat}{xs:List Value}(h:w.ownsRow a e b v n xs){g:Nat}(c:g<a):some g≠v.ownBlock:=λe=>by
 have:=(h.lt g e.symm).1;omega
def QP1{t s:ByteArray}(h:¬ t=s):(t.toList == s.toList)=false:=by
 rw[EL,EL,FK];intro e;exact h (ByteArray.ext (Array.toList_inj.1 e))
def Ag(w:World)(o:Obj):Below w.heap.size w (w.alloc o):=(AU _ _).alloc (AY _) _
def OL(w:World)(s:ByteArray)(g k l i:Nat)(wr:World):Prop :=
 ∃ cs A c,Pn s i=some cs/\cs.length=i/\Ce cs<=2000*i/\wr.ownsRow (g+1) 9 1 (.slice A i c) i (strs cs)/\Has wr g 114 #[.int .i64 k,.int .i64 l,.slice A i c] /\
   Has wr w.heap.size 114 #[.int .i64 0,.int .i64 0,.slice none 0 0]/\Below w.heap.size w wr/\w.heap.size+1<=g
def own_base{w:World}{a b:Nat}{e:TypeId}{c:Nat}{v:Value}{n:Nat}{xs:List Value}(h:w.ownsRow a e c v n xs)(k:b<=a):w.ownsRow b e c v n xs:=by
 refine⟨h.1, ?_⟩
 rcases h.2 with h |⟨g,cap,d,f,j,i,r⟩
 ·exact .inl h
 ·exact .inr ⟨g,cap,d,f,by omega,i,r⟩
def bG(w:World)(o:Option Pg)(a:Value)(e:Ending)(w':World):Prop :=
 match o with
 | none=>e = .returned (.tuple #[.agg #[.int .i64 0,.int .i64 0,.slice none 0 0],a])/\Below w.heap.size w w'
 | some p=>∃ A c,e = .returned (.tuple #[.agg #[.int .i64 p.1,.int .i64 p.2.1,.slice A p.2.2.length c],.int .i64 0])/\w'.ownsRow (w.heap.size+1) 9 1 (.slice A p.2.2.length c) p.2.2.length (strs p.2.2)/\Below w.heap.size w w'
def Nk{w w':World}{o:Option Pg}{a:Value}(h:o=none)(b:Below w.heap.size w w'):bG w o a (.returned (.tuple #[.agg #[.int .i64 0,.int .i64 0,.slice none 0 0],a])) w':=by
 subst h;exact⟨rfl,b⟩
def ZR0{w w':World}{o:Option Pg}{a:Value}{k l n c:Nat}{cs:List ByteArray}{A:Option Addr}(h:o=some (k,l,cs))(b:cs.length=n)(d:w'.ownsRow (w.heap.size+1) 9 1 (.slice A n c) n (strs cs))(e:Below w.heap.size w w'):bG w o a (.returned (.tuple #[.agg #[.int .i64 k,.int .i64 l,.slice A n c],.int .i64 0])) w':=by
 subst h b;exact⟨A,c,rfl,d,e⟩
def yP(s:ByteArray)(S:s.size<=1048576)(w:World):Calls Tryz.prog 124 #[.string s] w (bG w (Ie s) (.int .i64 4)):=by
 have ad:=Ac (Has.new w 114 #[.int .i64 0,.int .i64 0,.slice none 0 0]);have O:=Ac (Ag w (.cells #[.int .i64 0,.int .i64 0,.slice none 0 0] 114));by_cases h1:s.size=1024
 ·obtain ⟨x,hx⟩:∃ x,Wj s.data.toList 0=x:=⟨_,rfl⟩
  obtain⟨y,T⟩:∃ y,I5 (s.data.toList.drop 4)=y:=⟨_,rfl⟩;have lx:=rU s.data.toList 0;have ly:=eQ (s.data.toList.drop 4);have T0:=Ac (λw1=>wK s 0 (by omega) S w1)
  have S0:=(λw1=>pF (s.extract 4 1024) w1 (by simp;omega))
  rw[MT0 h1,T]at S0;have ai:=Ac S0;clear S0;rw[hx]at lx T0;rw[T]at ly
  have w1:IntKind.u32.wrap (x:Int)=(x:Int):=by rw[IntKind.wrap_u32'];omega
  have bs:((s.size:Nat):Int)=1024:=by omega
  by_cases U:x=y
  ·have g2:((x:Int) != (y:Int))=false:=by rw [U];simp
   have H1:=Ac h1;have H2:=Ac (show Wj s.data.toList 0=I5 (s.data.toList.drop 4)by rw[hx,T,U]);clear hx T U
   have s4:4<s.size:=by omega
   have bt:(4:Int)<(s.size:Int):=by omega
   have i4:=getD_byte s 4 s4;obtain⟨k,D⟩:∃ k,(s.data.toList.getD 4 0).toNat=k:=⟨_,rfl⟩;have bk:=Ic (s.data.toList.getD 4 0);rw[D]at bk;rw[i4]at D
   have w4:IntKind.i64.wrap (s[4].toNat:Int)=(k:Int):=by rw[D];exact JL _ ⟨by omega,by omega⟩
   have bu:wrap64 (s[4].toNat:Int)=(k:Int):=by rw[D];unfold wrap64;omega
   have HK:Hid ((s.data.toList.getD 4 0).toNat=k):=by rw[i4];exact D
   clear i4;obtain⟨l,hl⟩:∃ l,Wj s.data.toList 8=l:=⟨_,rfl⟩;have ll:=rU s.data.toList 8;have T8:=Ac (λw1=>wK s 8 (by omega) S w1);rw[hl]at ll T8;obtain⟨n,hn⟩:∃ n,Hq s.data.toList 6=n:=⟨_,rfl⟩;have ln:=Uz s.data.toList 6;have T6:=Ac (λw1=>Xk s 6 (by omega) S w1);rw[hn]at ln T6;have HL:=Ac hl;have HN:=Ac hn;clear hl hn D;go_enter Tryz.func124,Tryz.ntmps124
   go_wp2_with fail
   refine Du (_) (by kernel_rfl) (by kernel_rfl) (CQ.start _) ?_
   repeat
    first
     | go_big_quiet_skip
     |(go_big_quiet_want;(first | go_big_quiet_op | go_simp);first | go_big_quiet_on |(apply NC;refine⟨λw' C=>?_, ?_⟩;(·(first |(with_reducible exact rfl) |(first |(go_at_call 195;refine(T0 _).mono ?_;rintro e w1 ⟨rfl,b⟩;exact⟨rfl,CQ.step C b⟩) |(go_at_call 194;refine(ai _).mono ?_;rintro e w1 ⟨rfl,rfl⟩;exact⟨rfl,C⟩)) |(obtain⟨hc,hf⟩:=C.facts;go_simp;first | done |(with_reducible exact rfl) |(with_reducible exact⟨rfl,rfl⟩))));go_big_quiet_on))
   refine MQ ?_;intro wq B;have aj:=Ac (ad.Ai B.bel);have ak:=Ac (Ap O B.bel O.size);clear B
   go_wp2_with fail
   refine Gt 7 (CQ (wq)) (QD [λu _=>u = .string s,λu _=>u = .int .u8 s[4].toNat,λu _=>u = .int .i64 k,λu _=>u = .string s,λu _=>u = .int .i64 l,λu _=>u = .agg #[.int .i64 k,.int .i64 l,.slice none 0 0],λu w1=>∃ g,u = .pointer (some ⟨g,0,none⟩)/\Has w1 g 114 #[.int .i64 0,.int .i64 0,.slice none 0 0]/\w.heap.size+1<=g]) (by kernel_rfl) (by kernel_rfl) (by kernel_rfl) (λ_ _ K b=>CQ.step K b) ?hst (CQ.start _) ?hops ?hend
   case hst=>exact Qj _ ⟨Bh _,Bh _,Bh _,Bh _,Bh _,Bh _,λu w1 w2 b ⟨g,e,h,hg⟩=>⟨g,e,h.Ai b,hg⟩,trivial⟩
   case hops =>
    intro us wx F K;obtain⟨u0,u1,u2,u3,u4,u5,u6,rfl⟩:=oH us F;clear F;simp only[Bq,Act.put,DY,DZ,EP,EF,EH];refine⟨λh=>?_,λh=>?_,λh=>?_,λh=>?_,λh=>?_,λh=>?_,λh=>?_,trivial⟩
    ·(clear h;refine Ae rfl ?_;go_simp;exact⟨AU _ _,rfl⟩)
    ·obtain rfl:=h 0 rfl
     (clear h;refine Ae rfl ?_;go_simp;exact⟨AU _ _,rfl⟩)
    ·obtain rfl:=h 1 rfl
     (clear h;refine Ae rfl ?_;go_simp;exact⟨AU _ _,rfl⟩)
    ·(clear h;refine Ae rfl ?_;go_simp;exact⟨AU _ _,rfl⟩)
    ·obtain rfl:=h 3 rfl
     (clear h;refine Ae rfl ?_;go_simp;refine(T8 _).mono ?_;rintro e w1 ⟨rfl,b⟩;exact⟨_,rfl,b,rfl⟩)
    ·obtain rfl:=h 2 rfl;obtain rfl:=h 4 rfl
     (clear h;refine Ae rfl ?_;go_simp;exact⟨AU _ _,rfl⟩)
    ·have bw:=K.bel.size;have ax:=aj.lt;clear h;refine Ae rfl ?_;go_simp;exact⟨Ag _ _,_,rfl,Has.new _ _ _,by omega⟩
   case hend =>
    intro us wx F K;obtain⟨u0,u1,u2,u3,u4,u5,u6,rfl⟩:=oH us F;clear F;intro a9;obtain⟨h0,h1,U,h3,h4,h5,h6,_⟩:=a9;obtain rfl:=h5;obtain⟨g,rfl,E,bb⟩:=h6;have ay:=Ac (aj.Ai K.bel);have az:=Ac (Ap ak K.bel ak.size);have gf:=E.frozen;obtain⟨g0,g1,g3⟩:=E.cells3;have gz:=E.lt
    have ah:g≠w.heap.size:=by omega
    have al:=Ac (ay.RK1 (g':=g) (x:=.int .i64 k) (y:=.int .i64 l) (z:=.slice none 0 0) (OJ ah));have a0:=Ac (E.tK (x:=.int .i64 k) (y:=.int .i64 l) (z:=.slice none 0 0));have X:=Ac (((az.setCell (p:=⟨g,0,none⟩) (by simp;omega) (.int .i64 k)).setCell (p:=⟨g,1,none⟩) (by simp;omega) (.int .i64 l)).setCell (p:=⟨g,2,none⟩) (by simp;omega) (.slice none 0 0));clear h0 h1 U h3 h4 K E aj ak T8 T0 ai ay az;by_cases h3:1024<12+2*n
    ·have j:=Ac (SL0 (s:=s) (by rw [HN.out];exact h3))
     go_wp2_with (go_at_call 196;refine(T6 _).mono ?_;rintro e w1 ⟨rfl,b⟩;have J:=al.Ai b;obtain⟨G,H,I⟩:=J.cells3;have L:=J.frozen;have M:=J.lt;have ae:=Ac (Ap X b X.size);clear J)
     refine IQ (v:=.tuple #[.agg #[.int .i64 0,.int .i64 0,.slice none 0 0],.int .i64 4]) (by simp[results,SN,go_sem, *]) rfl ?_;exact Nk j (((ae.setCell (by simp) _).setCell (by simp) _).setCell (by simp) _)
    ·have am:Hid (Ie s=NS s n):=by
      have:=IW1 H1 H2 (by rw[HN.out];exact h3);rw[HN.out]at this;exact this
     go_wp2_with (go_at_call 196;refine(T6 _).mono ?_;rintro e w1 ⟨rfl,b⟩;have J:=Ac (al.Ai b);have a1:=Ac (a0.Ai b);have ae:=Ac (Ap X b X.size))
     clear g0 g1 g3 gf gz b
     go_loopw [37] (λan wr=>∃ i:Nat,i<=n/\an = .int .i64 i/\OL w s g k l i wr) (λan _=>n-(intOf an).toNat)
     case atStart=>exact⟨0,BR _,rfl,[],none,0,rfl,rfl,by simp[Ce],JJ _ _ _ _,a1,J,ae,bb⟩
     case round =>
      clear J a1 ae al a0 X;obtain⟨i,hi,rfl,cs,A,c,a2,ar,F,au,E,hR,av,_⟩:=hrel;have af:=Ac a2;have aw:=Ac ar;have bd:=Ac F;have N:=Ac au;have HG:=Ac E;have V:=Ac hR;have r:=Ac av;clear a2 ar F au E hR av;by_cases a3:i<n
      ·obtain ⟨a,ha⟩:∃ a,Hq s.data.toList (12+2*i)=a:=⟨_,rfl⟩
       have la:=Uz s.data.toList (12+2*i)
       have T1:=(λw1=>Xk s (12+2*i) (by omega) S w1)
       rw[ha]at la T1;rw[show((12+2*i:Nat):Int)=12+2*(i:Int)by omega]at T1;have ao:=Ac T1;have HA:=Ac ha;clear T1 ha;by_cases a4:1024<a+2
       ·have j:Hid (Ie s=none):=by
         rw[am.out];unfold NS;rw[zA (GH0 af.out HA.out (.inl a4)) n a3];exact Ac rfl
        go_wp2_with (go_at_call 196;refine(ao _).mono ?_;rintro e w1 ⟨rfl,b⟩;have d:=V.Ai b;obtain⟨G,H,I⟩:=d.cells3;have L:=d.frozen;have M:=d.lt;have f:=Ac (Ap r b r.size);clear d)
        refine IQ (v:=.tuple #[.agg #[.int .i64 0,.int .i64 0,.slice none 0 0],.int .i64 4]) (by simp[results,SN,go_sem, *]) rfl ?_;exact Nk j (((f.setCell (by simp) _).setCell (by simp) _).setCell (by simp) _)
       ·obtain ⟨m,hm⟩:∃ m,Hq s.data.toList a=m:=⟨_,rfl⟩
        have lm:=Uz s.data.toList a
        have T2:=(λw1=>Xk s a (by omega) S w1)
        rw[hm]at lm T2;have ap:=Ac T2;have HM:=Ac hm;clear T2 hm;by_cases a5:1024<a+2+m
        ·have j:Hid (Ie s=none):=by
          rw[am.out];unfold NS;rw[zA (GH0 af.out HA.out (.inr (by rw[HM.out];exact a5))) n a3];exact Ac rfl
         go_wp2_with (first |(go_at_call 196;(with_reducible refine(ao.out _).mono ?_);rintro e w1 ⟨rfl,b⟩;have d:=Ac (V.Ai b);have f:=Ac (Ap r b r.size)) |(go_at_call 196;(with_reducible refine(ap.out _).mono ?_);rintro e w2 ⟨rfl,hb2⟩;have P:=d.Ai hb2;obtain⟨G,H,I⟩:=P.cells3;have L:=P.frozen;have M:=P.lt;have Q:=Ac (Ap f hb2 f.size);clear P))
         refine IQ (v:=.tuple #[.agg #[.int .i64 0,.int .i64 0,.slice none 0 0],.int .i64 4]) (by simp[results,SN,go_sem, *]) rfl ?_;exact Nk j (((Q.setCell (by simp) _).setCell (by simp) _).setCell (by simp) _)
        ·have RD:=Ac (VI0 af HA HM a4 a5)
         go_wp2_with (first |(go_at_call 196;(with_reducible refine(ao.out _).mono ?_);rintro e w1 ⟨rfl,b⟩;have d:=Ac (V.Ai b);have f:=Ac (Ap r b r.size);have Y:=Ac (HG.Ai b)) |(go_at_call 196;(with_reducible refine(ap.out _).mono ?_);rintro e w2 ⟨rfl,hb2⟩;have P:=Ac (d.Ai hb2);have ag:=Ac (Y.Ai hb2);have Q:=Ac (Ap f hb2 f.size)))
         have be:=Ac (own_below (own_below N b) hb2);obtain⟨i0,bf,bg,bh,bi⟩:=IP lH;obtain⟨g0,g1,g3⟩:=ag.cells3;have gf:=ag.frozen;have gz:=ag.lt;have ah:some g≠Value.ownBlock (.slice A i c):=own_ne N (by omega);obtain⟨p,hp⟩:∃ p,a+2=p:=⟨_,rfl⟩;obtain⟨q,B⟩:∃ q,p+m=q:=⟨_,rfl⟩;rw[hp,B]at RD
         have p1:(a:Int)+2=(p:Int):=by omega
         have p2:(p:Int)+(m:Int)=(q:Int):=by omega
         have p3:IntKind.i64.wrap (p:Int)=(p:Int):=JL _ ⟨by omega,by omega⟩;have p4:IntKind.i64.wrap (q:Int)=(q:Int):=JL _ ⟨by omega,by omega⟩
         have p5:(p:Int)<=(q:Int):=by omega
         have p6:(q:Int)<=1024:=by omega
         have p7:p<=q:=by omega
         have p8:q<=s.size:=by omega
         go_region_law
          (first
            |(go_simp;go_at_call 196;(with_reducible refine(ap.out _).mono ?_);rintro e w3 ⟨rfl,R⟩;have a6:w2.heap.size<=w3.heap.size:=R.size;have Z:=ag.drew.Ai R;have bj:=Z.frozen;have bl:=Z.cells3.2.2;have bx:=Z.lt;have a7:=own_below be.drew R)
            |(refine step_append_lies _ (by rfl) _ _ _ (by rfl) (g+1) 9 i0 _ 1 16 QT bf bg bh bi rfl (by omega) (.slice A i c) i (strs cs) (by rfl) (a7.alloc _) _ 1 1 [.string (s.extract p q)] (by rfl) (by rfl) (JQ (I8 _ _)) (by simp[Value.oneCell']) (by omega) (by simp only[maxLen];omega) (by omega) (by simp;omega) _ rfl ?_;intro gg cap w5 aq ab bm ax;have ac:=(Z.alloc _).grown ab ah;have bn:=ac.frozen;have bo:=ac.cells3.2.2))
         all_goals
          have ba:=Ac aq;have bp:=Ac (ac.set 2 (.slice (some ⟨gg,0,none⟩) (i+1) cap));have bq:=Ac ((((P.drew.Ai R).alloc (.cells #[.string (s.extract p q)] 9)).grown ab (own_ne N (by omega))).far (p:=⟨g,2,none⟩) (by simp;omega) (.slice (some ⟨gg,0,none⟩) (i+1) cap));have br:=Ac ((((Ap Q.drew R Q.size).alloc (BN Q.size a6) (.cells #[.string (s.extract p q)] 9)).grown ab (BN (BN Q.size a6) (by simp)) (λk D=>BN (by omega) (N.lt k D).1)).setCell (p:=⟨g,2,none⟩) (by simp;omega) (.slice (some ⟨gg,0,none⟩) (i+1) cap));clear aq ab ac Z a7 bm ax R bn bo bl bj
          go_wp2_with fail
          go_roundw
          case rel =>
           refine⟨i+1,by omega,by simp,cs++[s.extract p q],some ⟨gg,0,none⟩,cap,RD,by simp[aw.out],(FU0 S RD).2, ?_,bp,bq,br,by omega⟩;rw[show strs (cs++[s.extract p q])=strs cs++[.string (s.extract p q)]by simp[strs]];exact KQ ba (by simp) _
          case measure=>simp[intOf];omega
      ·obtain rfl:n=i:=by omega
       have a8:=SS.Ed N;have W:=Uh (k:Int) (l:Int) A n c cs wr a8 (by omega) (by have:=bd.out;omega);obtain⟨g0,g1,g3⟩:=HG.cells3;have gf:=HG.frozen;have gz:=HG.lt
       have aa:Hid (Ie s=fin s k l cs):=by
        rw[am.out];unfold NS;rw[af.out,bV,HL.out];congr 1
       obtain⟨e,he⟩:∃ e,Qz (k:Int) (l:Int) cs=e:=⟨_,rfl⟩;obtain⟨t,ht⟩:∃ t,Dj (k:Int) (l:Int) cs=t:=⟨_,rfl⟩;unfold fin at aa;rw[he,ht]at W aa;have W:=Ac W;clear he ht;by_cases e0:e=0
       ·subst e0;by_cases ts:t=s
        ·subst ts
         have j:Hid (Ie t=some (k,l,cs)):=by rw[aa.out,AC ⟨rfl,rfl⟩];exact Ac rfl
         go_wp2_with (go_at_call 122;refine W.mono ?_;rintro e w1 ⟨rfl,b⟩;have d:=V.Ai b;have Y:=HG.Ai b;obtain⟨G,H,I⟩:=d.cells3;have L:=d.frozen;have M:=d.lt;obtain⟨q0,q1,q2⟩:=Y.cells3;have qz:=Y.lt;have f:=Ac (Ap r b r.size);clear d Y)
         refine IQ (v:=.tuple #[.agg #[.int .i64 k,.int .i64 l,.slice A n c],.int .i64 0]) (by simp[results,SN,go_sem, *]) rfl ?_
         have far:∀ o a,A=some a->a.block≠(⟨w.heap.size,o,none⟩:Addr).block:=λo a e=>by subst e;have:=(N.lt a.block rfl).1;simp;omega
         exact ZR0 j aw (own_base (KQ (KQ (KQ (own_below N b) (by simp;omega) _) (by simp;omega) _) (by simp;omega) _) (by omega)) (((f.setCell (by simp) _).setCell (by simp) _).setCell (by simp) _)
        ·have j:Hid (Ie s=none):=by rw [aa.out,AO (λh=>ts h.2)];exact Ac rfl
         have g6:=QP1 ts
         go_wp2_with (go_at_call 122;refine W.mono ?_;rintro e w1 ⟨rfl,b⟩;have d:=V.Ai b;obtain⟨G,H,I⟩:=d.cells3;have L:=d.frozen;have M:=d.lt;have f:=Ac (Ap r b r.size);clear d)
         refine IQ (v:=.tuple #[.agg #[.int .i64 0,.int .i64 0,.slice none 0 0],.int .i64 4]) (by simp[results,SN,go_sem, *]) rfl ?_;exact Nk j (((f.setCell (by simp) _).setCell (by simp) _).setCell (by simp) _)
       ·have j:Hid (Ie s=none):=by rw [aa.out,AO (λh=>e0 h.1)];exact Ac rfl
        have g5:(e != (0:Int))=true:=by simp[e0]
        go_wp2_with (go_at_call 122;refine W.mono ?_;rintro e w1 ⟨rfl,b⟩;have d:=V.Ai b;obtain⟨G,H,I⟩:=d.cells3;have L:=d.frozen;have M:=d.lt;have f:=Ac (Ap r b r.size);clear d)
        refine IQ (v:=.tuple #[.agg #[.int .i64 0,.int .i64 0,.slice none 0 0],.int .i64 4]) (by simp[results,SN,go_sem, *]) rfl ?_;exact Nk j (((f.setCell (by simp) _).setCell (by simp) _).setCell (by simp) _)
  ·have j:=Ac (GX1 (s:=s) (by rw [hx,T];exact U))
   have g2:((x:Int) != (y:Int))=true:=by simp;omega
   clear hx T;obtain⟨G,H,I⟩:=ad.cells3;go_enter Tryz.func124,Tryz.ntmps124
   go_wp2_with fail
   refine Du (_) (by kernel_rfl) (by kernel_rfl) (CQ.start _) ?_
   repeat
    first
     | go_big_quiet_skip
     |(go_big_quiet_want;(first | go_big_quiet_op | go_simp);first | go_big_quiet_on |(apply NC;refine⟨λw' C=>?_, ?_⟩;(·(first |(with_reducible exact rfl) |(first |(go_at_call 195;refine(T0 _).mono ?_;rintro e w1 ⟨rfl,b⟩;exact⟨rfl,CQ.step C b⟩) |(go_at_call 194;refine(ai _).mono ?_;rintro e w1 ⟨rfl,rfl⟩;exact⟨rfl,C⟩)) |(obtain⟨hc,hf⟩:=C.facts;go_simp;first | done |(with_reducible exact rfl) |(with_reducible exact⟨rfl,rfl⟩))));go_big_quiet_on))
   refine MQ ?_;intro wq B;have d:=ad.Ai B.bel;obtain⟨G,H,I⟩:=d.cells3;have L:=d.frozen;have M:=d.lt;have f:=Ac (Ap O B.bel O.size)
   go_wp2_with fail
   refine IQ (v:=.tuple #[.agg #[.int .i64 0,.int .i64 0,.slice none 0 0],.int .i64 4]) (by simp[results,SN,go_sem, *]) rfl ?_;exact Nk j (((f.setCell (by simp) _).setCell (by simp) _).setCell (by simp) _)
 ·have j:=Ac (ZB0 h1)
  have g2:((s.size:Int) != 1024)=true:=by simp;omega
  go_enter Tryz.func124,Tryz.ntmps124
  go_wp2_with fail
  refine Du (_) (by kernel_rfl) (by kernel_rfl) (CQ.start _) ?_
  repeat
   first
    | go_big_quiet_skip
    |(go_big_quiet_want;(first | go_big_quiet_op | go_simp);first | go_big_quiet_on |(apply NC;refine⟨λw' C=>?_, ?_⟩;(·(first |(with_reducible exact rfl) |(fail) |(obtain⟨hc,hf⟩:=C.facts;go_simp;first | done |(with_reducible exact rfl) |(with_reducible exact⟨rfl,rfl⟩))));go_big_quiet_on))
  refine MQ ?_;intro wq B;have d:=ad.Ai B.bel;obtain⟨G,H,I⟩:=d.cells3;have L:=d.frozen;have M:=d.lt;have f:=Ac (Ap O B.bel O.size)
  go_wp2_with fail
  refine IQ (v:=.tuple #[.agg #[.int .i64 0,.int .i64 0,.slice none 0 0],.int .i64 4]) (by simp[results,SN,go_sem, *]) rfl ?_;exact Nk j (((f.setCell (by simp) _).setCell (by simp) _).setCell (by simp) _)
def aW(s:ByteArray)(a:s.size<=1048576)(w:World):Calls Tryz.prog 124 #[.string s] w (yT w (Ie s) (.int .i64 4)):=by
 refine(yP s a w).mono λe w' h=>?_;unfold bG at h;unfold yT
 split at h
 ·exact h
 ·obtain ⟨A,c,b,d,f⟩:=h;exact⟨A,c,b,SS.Ed d,f⟩
end Go.Proofs.YtjihboddejaelaaGreat
namespace Go.Proofs.YtjihboddejaelaaGreat
open Go.RowKit Go.BigFrame
section
variable {P:Pl} {k:Nat}
def FW1(h:Fit P.L.D (k+1))(f:Pf):Fit (P.Io f).1.L.D k:=by
 unfold Pl.Io
 split
 ·split <;> exact kW h _ _
 ·exact h.less (by omega)
def oL(h:Fit P.L.D (k+1)):Fit P.room.1.L.D k:=by
 unfold Pl.room
 split
 ·exact h.less (by omega)
 ·split
  ·exact h.less (by omega)
  ·exact FW1 h _
def UK(h:Fit P.L.D (k+1))(x:Int):Fit (P.get x).1.L.D k:=by
 unfold Pl.get
 split
 ·split
  ·exact h.less (by omega)
  ·split
   ·unfold Pl.fetch
    split <;> exact oL h
   ·exact oL h
 ·exact h.less (by omega)
def BT1(h:Fit P.L.D (k+1))(x:Int)(s:ByteArray):Fit (P.put x s).1.L.D k:=by
 unfold Pl.put
 split
 ·exact UK h x
 ·exact UK h x
def SQ0(h:Fit P.L.D (k+2))(n:Nat):Fit (P.Dc n).1.L.D k:=by
 have a:Fit (P.get 0).1.L.D (k+1):=UK h 0;unfold Pl.Dc
 split
 ·split
  ·exact a.less (by omega)
  ·split <;> exact BT1 a _ _
 ·exact a.less (by omega)
def kU(ok:P.ok):P.Pv.s.size<=1024:=by
 unfold Pl.Pv
 rcases dJ P.ring with h |⟨F,f,h⟩
 ·rw[h];exact BR _
 ·rw [h];rw[Ab2]at h ⊢
  have:(F++[f]).getLastD QE=f:=by simp
  rw[this];exact bY (ok.size f (by rw[h];exact BC _ (BH.2 rfl)))
def lG(ok:P.ok)(x:Int){s:ByteArray}(j:s.size=1024):(P.put x s).1.ok:=by
 have go:=Yo ok x;by_cases c:(P.get x).2=0
 ·obtain ⟨d,f,e,i,m,o⟩:=Qb ok c;rw[put_eq c e i];have g:=go.names;have sz:=go.size;have h:=go.full;have pg:=go.pages;rw[e]at g sz h pg;refine⟨go.log, ?_,λq a=>?_,λq a=>?_,go.most, ?_,go.few,go.link, ?_,λy k=>?_⟩
  ·show ((d++[_]).map _).Nodup;simpa using g
  ·rcases BO.1 a with a | a
   ·exact pg q (BL _ a)
   ·rw[BH.1 a];exact pg f (BC _ (BH.2 rfl))
  ·rcases BO.1 a with a | a
   ·exact sz q (BL _ a)
   ·rw[BH.1 a];exact j
  ·show (d++[_]).length<=_;simpa using h
  ·show (Vq _ _).Nodup;unfold Vq
   split
   ·exact go.turnd
   ·rename_i l;exact FP.2 ⟨l,go.turnd⟩
  ·have b:y∈Vq f.n (P.get x).1.turned:=k;unfold Vq at b
   split at b
   ·exact go.turns y b
   ·rcases BI.1 b with rfl | b
    ·exact pg f (BC _ (BH.2 rfl))
    ·exact go.turns y b
 ·unfold Pl.put;rw[AO c];exact go
def Pl.ok.Z8(ok:P.ok){n:Nat}(a:n<=2147483647):({ P with free:=n }:Pl).ok :=
 ⟨ok.log,ok.names,ok.pages,ok.size,ok.most,ok.full,ok.few,a,ok.turnd,ok.turns⟩
def AM1(ok:P.ok){n:Nat}(a:n<=2147483647):(P.Dc n).1.ok:=by
 unfold Pl.Dc
 split
 ·split
  ·exact Yo ok 0
  ·rename_i pg c;have d:=Nz.1 c;have b:=lG (Yo ok 0) 0 (s:=Dj 4 n pg.2.2) (Rh (K:=4) (by omega) (by omega) a d.2.2.2.1)
   split
   ·exact b.Z8 a
   ·exact b
 ·exact Yo ok 0
end
def SS.nil(w:World):SS w none 0 []:=⟨rfl,λh=>absurd h (by omega)⟩
def yD:∀ cs:List ByteArray,4*cs.length<=Ce cs
 | []=>BR _
 | c :: cs=>by
   have:=yD cs;simp only[Ce,DW,PW,DF]at this ⊢;omega
def rX (n:Nat) (A:Option Addr) (k c:Nat) (cs:List ByteArray) (w:World) (h:SS w A k cs) (g:Ce cs<=1012) :
 Calls Tryz.prog 41 #[.int .i64 n,.slice A k c] w λe w'=>e = .returned (.string (Dj 4 n cs))/\Below w.heap.size w w':=by
 have b:k<=4194304:=by have:=yD cs;have:=h.1;omega
 have d:=Ac (Uh 4 n A k c cs w h b (by omega));obtain⟨T,a⟩:∃ T,Dj 4 n cs=T:=⟨_,rfl⟩;obtain⟨E,f⟩:∃ T,Qz 4 n cs=T:=⟨_,rfl⟩;rw[a,f]at d;rw[a];clear h g a f b;go_enter Tryz.func41,Tryz.ntmps41
 go_wp2_with (go_at_call 122;refine d.mono ?_;rintro j w1 ⟨rfl,i⟩)
 go_ret;exact⟨rfl,i⟩
def DK0 (b:List (Option Nat)) (gd g m1 m2 p e h t:Nat) (A:List Nat) (P:Pl) (n:Nat) (hn:n<=2147483647) (w:World) (H:PM w b gd g m1 m2 p e h t A P) (ok:P.ok) (O:Fit P.L.D 2) :
 Calls Tryz.prog 127 #[.pointer (some ⟨p,0,none⟩),.int .i64 n] w (W9 (allB b g m1 m2 p e h t A) w gd g p e h t (P.Dc n).1 (P.Dc n).2):=by
 have G:=Ac (bJ b gd g m1 m2 p e h t A P 0 ⟨by omega,by omega⟩ w H ok (O.less (by omega)));have U:=Ac (Yo ok 0);have GF:=Ac (UK (k:=1) O 0)
 have u:Hid (P.Dc n=if (P.get 0).2=0 then (match Ie (P.get 0).1.Pv.s with
  | none=>((P.get 0).1,4)
  | some pg=>if((P.get 0).1.put 0 (Dj 4 n pg.2.2)).2=0 then({ ((P.get 0).1.put 0 (Dj 4 n pg.2.2)).1 with free:=n },0)else(P.get 0).1.put 0 (Dj 4 n pg.2.2))else P.get 0):=rfl
 have K:Hid (P.text 0=if(P.get 0).2=0 then(P.get 0).1.Pv.s else⟨#[]⟩):=rfl
 obtain⟨T,hT⟩:∃ T,P.text 0=T:=⟨_,rfl⟩;obtain⟨Q,M⟩:∃ Q,(P.get 0).1=Q:=⟨_,rfl⟩;obtain⟨E,v⟩:∃ E,(P.get 0).2=E:=⟨_,rfl⟩
 have y:P.get 0=(Q,E):=by rw[<- M,<- v]
 rw[hT,M,v]at G K;rw[M]at U GF;rw[y]at u;dsimp only at u;clear H ok O hT M v y;by_cases z:E=0
 ·subst z;have HT:=Ac (K.trans (AC rfl));have o:=Ac (u.trans (AC rfl));rw[<- HT.out]at o
  have TZ:T.size<=1048576:=by rw[HT.out];exact BN (kU U) (by omega)
  have N:=Ac (λw=>aW T TZ w);clear u K TZ
  cases q:Ie T with
  | none =>
    have J:Hid (∀ w,Calls Tryz.prog 124 #[.string T] w λe w'=>e = .returned (.tuple #[.agg #[.int .i64 0,.int .i64 0,.slice none 0 0],.int .i64 4])/\Below w.heap.size w w'):=λw=>by
     have:=N w;rw[q]at this;exact this
    have d:Hid (P.Dc n=(Q,4)):=by have:=o.out;rw[q]at this;exact this
    clear N o q;go_enter Tryz.func127,mO
    go_wp2_with (first
     |(go_at_call 70;refine G.mono ?_;rintro a w1 ⟨rfl,j,m,n2,A1,f,i⟩)
     |(go_at_call 124;refine(J _).mono ?_;rintro a w2 ⟨rfl,hb2⟩))
    go_ret;rw[d.out];have r:=hb2.alloc hb2.size (.cells #[.int .i64 0,.int .i64 0,.slice none 0 0] 114);exact⟨rfl,j,m,n2,A1,f.below r,i.trans (Turn.below _ r)⟩
  | some pg =>
    obtain⟨k,l,cs⟩:=pg;have hv:=Nz.1 q;have hu:Ce cs<=1012:=hv.2.2.2.1
    have J:Hid (∀ w,Calls Tryz.prog 124 #[.string T] w λe w'=>∃ A c,e = .returned (.tuple #[.agg #[.int .i64 k,.int .i64 l,.slice A cs.length c],.int .i64 0])/\SS w' A cs.length cs/\Below w.heap.size w w'):=λw=>by
     have:=N w;rw[q]at this;exact this
    have d:Hid (P.Dc n=if(Q.put 0 (Dj 4 n cs)).2=0 then({ (Q.put 0 (Dj 4 n cs)).1 with free:=n },0)else Q.put 0 (Dj 4 n cs)):=by have:=o.out;rw[q]at this;exact this
    have Z:=Ac (λA c w (hs:SS w A cs.length cs)=>rX n A cs.length c cs w hs hu);have PT:=Ac (λj m n2 A1 w1 (hq:PM w1 j gd g m n2 p e h t A1 Q)=>ZZ j gd g m n2 p e h t A1 Q 0 ⟨by omega,by omega⟩ (Dj 4 n cs) w1 hq U GF)
    obtain⟨S,hS⟩:∃ S,Dj 4 n cs=S:=⟨_,rfl⟩;rw[hS]at d Z PT;obtain⟨R,hR⟩:∃ R,(Q.put 0 S).1=R:=⟨_,rfl⟩;obtain⟨E,v⟩:∃ E,(Q.put 0 S).2=E:=⟨_,rfl⟩
    have y:Q.put 0 S=(R,E):=by rw[<- hR,<- v]
    rw[y]at d PT;dsimp only at d PT;clear N o q hv hu hS hR v y;by_cases z:E=0
    ·subst z;have V:=Ac (d.trans (AC rfl));clear d;go_enter Tryz.func127,mO
     go_wp2_with (first
      |(go_at_call 70;refine G.mono ?_;rintro a w1 ⟨rfl,j,m,n2,A1,f,i⟩;have HM:=Ac f;have W:=Ac i;clear f i)
      |(go_at_call 124;refine(J _).mono ?_;rintro a w2 ⟨A2,I,rfl,B,hb2⟩;have X:=Ac (B.keep (((AU _ _).alloc (AY _) (.cells #[.int .i64 k,.int .i64 l,.slice A2 cs.length I] 114))));have C:=Ac (hb2.alloc hb2.size (.cells #[.int .i64 k,.int .i64 l,.slice A2 cs.length I] 114));clear B)
      |(go_at_call 41;refine(Z _ _ _ X).mono ?_;rintro a w3 ⟨rfl,r⟩;have F:=Ac (Ap C r C.size))
      |(go_at_call 128;refine(PT _ _ _ _ _ (HM.below F)).mono ?_;rintro a w4 ⟨rfl,b4,n4,n5,A4,x,Y⟩;have y5:w4.cell? ⟨p,5,none⟩=some (.int .i64 R.free):=x.has.cell 5;have yf:=x.has.frozen))
     go_ret;rw[V.out];obtain⟨s1,s2⟩:=x.set (P':={ R with free:=n }) 5 (.int .i64 n) rfl rfl rfl rfl;exact⟨rfl,b4,n4,n5,A4,s1,((W.trans (Turn.below _ F)).trans Y).trans s2⟩
    ·have V:=Ac (d.trans (AO z));clear d;go_enter Tryz.func127,mO
     go_wp2_with (first
      |(go_at_call 70;refine G.mono ?_;rintro a w1 ⟨rfl,j,m,n2,A1,f,i⟩;have HM:=Ac f;have W:=Ac i;clear f i)
      |(go_at_call 124;refine(J _).mono ?_;rintro a w2 ⟨A2,I,rfl,B,hb2⟩;have X:=Ac (B.keep (((AU _ _).alloc (AY _) (.cells #[.int .i64 k,.int .i64 l,.slice A2 cs.length I] 114))));have C:=Ac (hb2.alloc hb2.size (.cells #[.int .i64 k,.int .i64 l,.slice A2 cs.length I] 114));clear B)
      |(go_at_call 41;refine(Z _ _ _ X).mono ?_;rintro a w3 ⟨rfl,r⟩;have F:=Ac (Ap C r C.size))
      |(go_at_call 128;refine(PT _ _ _ _ _ (HM.below F)).mono ?_;rintro a w4 ⟨rfl,b4,n4,n5,A4,x,Y⟩))
     go_ret;rw[V.out];exact⟨rfl,b4,n4,n5,A4,x,(W.trans (Turn.below _ F)).trans Y⟩
 ·have o:=Ac (u.trans (AO z));clear u K;go_enter Tryz.func127,mO
  go_wp2_with (go_at_call 70;refine G.mono ?_;rintro a w1 ⟨rfl,j,m,n2,A1,f,i⟩)
  go_ret;rw[o.out];exact⟨rfl,j,m,n2,A1,f,i⟩
def sJ(l:Nat)(w:World):Calls Tryz.prog 122 #[.agg #[.int .i64 3,.int .i64 l,.slice none 0 0]] w λe w'=>e = .returned (.tuple #[.string (Dj 3 l []),.int .i64 (Qz 3 l [])])/\Below w.heap.size w w' :=
 Uh 3 l none 0 0 [] w (SS.nil w) (by omega) (by decide)
def yJ(w:World):Calls Tryz.prog 122 #[.agg #[.int .i64 3,.int .i64 0,.slice none 0 0]] w λe w'=>e = .returned (.tuple #[.string Hu,.int .i64 (Qz 3 0 [])])/\Below w.heap.size w w':=sJ 0 w
def AY1:Hu.size=1024:=Rh (K:=3) (L:=0) (by omega) (by omega) (by omega) (by decide)
section
variable {P:Pl}
def NE1(ok:P.ok)(h:¬ 67108864<(P.pages+1)*1024):P.grow.1.ok:=by
 obtain⟨a,e⟩:=WH ok;obtain⟨p,r,s,t,u⟩:=Lj (P:=P);unfold Pl.grow
 split
 ·rename_i g;have v:=e g;have o:=a.pages
  have d:({ P.room.1 with pages:=P.room.1.pages+1 }:Pl).ok :=
   ⟨a.log,a.names,λf i=>Nat.lt_succ_of_lt (a.pages f i),a.size,a.most,a.full,by show P.room.1.pages+1<=65536;omega,a.link,a.turnd,λx j=>Nat.lt_succ_of_lt (a.turns x j)⟩
  have b:=fC d (f:=⟨P.room.1.pages,Hu,0,true⟩) (λq k=>by have w:=a.pages q k;show(q.n:Int)≠(P.room.1.pages:Int);omega) (bW _) AY1 (by show P.room.1.ring.length<P.room.1.most;omega) P.room.1.hits P.room.1.misses;refine⟨b.log,b.names,b.pages,b.size,b.most,b.full,b.few,b.link, ?_,λy l=>?_⟩
  ·show (Vq _ _).Nodup;unfold Vq
   split
   ·exact a.turnd
   ·rename_i m;exact FP.2 ⟨m,a.turnd⟩
  ·have c:y∈Vq P.room.1.pages P.room.1.turned:=l;show y<P.room.1.pages+1;unfold Vq at c
   split at c
   ·have:=a.turns y c;omega
   ·rcases BI.1 c with rfl | c
    ·omega
    ·have:=a.turns y c;omega
 ·exact a
end
def jG(B:List (Option Nat))(w:World)(gd g p e h t:Nat)(P:Pl)(n:Nat)(E:Int)(a:Ending)(w':World):Prop :=
 a = .returned (.tuple #[.int .i64 n,.int .i64 E])/\∃ b' m1' m2' A',PM w' b' gd g m1' m2' p e h t A' P/\Turn B (allB b' g m1' m2' p e h t A') w w'
def Pl.Rf(P:Pl):Nat:=if P.alloc.2=0 then P.Aj else 0
def GZ1 (b:List (Option Nat)) (gd g m1 m2 p e h t:Nat) (A:List Nat) (P:Pl) (w:World) (H:PM w b gd g m1 m2 p e h t A P) (ok:P.ok) (F:Fit P.L.D 1) (s:P.free=0) :
 Calls Tryz.prog 45 #[.pointer (some ⟨p,0,none⟩)] w (jG (allB b g m1 m2 p e h t A) w gd g p e h t P.alloc.1 P.Rf P.alloc.2):=by
 have HP:=Ac H
 have x5:w.cell? ⟨p,5,none⟩=some (.int .i64 0):=by have:w.cell? ⟨p,5,none⟩=some (.int .i64 P.free):=H.has.cell 5;rw[s]at this;exact this
 have x4:w.cell? ⟨p,4,none⟩=some (.int .i64 P.pages):=H.has.cell 4
 have ai:(P.pages:Int)<=65536:=by have:=ok.few;omega
 have z:Hid (P.alloc=if 67108864<(P.pages+1)*1024 then(P,8)else P.grow):=AC s
 have m:Hid (P.Rf=if P.alloc.2=0 then P.pages else 0):=by
  have:P.Aj=P.pages:=AC s;unfold Pl.Rf;rw[this];exact Ac rfl
 by_cases v:67108864<(P.pages+1)*1024
 ·have j:=Ac (z.trans (AC v))
  have r:Hid (P.Rf=0):=by have:=m.out;rw[j.out]at this;exact this
  have J:(67108864:Int)<((P.pages:Int)+1)*1024:=by omega
  rw[j.out,r.out];clear H ok F s z m v;go_enter SX,SQ
  go_wp2_with fail
  go_ret2;exact⟨rfl,b,m1,m2,A,HP,Turn.refl _ _⟩
 ·have j:=Ac (z.trans (AO v))
  have J:¬(67108864:Int)<((P.pages:Int)+1)*1024:=by omega
  have B:=Ac (wI b gd g m1 m2 p e h t A P w H ok F);have c:=Ac (WH ok);have u:=Ac (Lj (P:=P));have o:Hid (P.grow=if P.room.2=0 then({ P.room.1 with pages:=P.room.1.pages+1,ring:=P.room.1.ring++[⟨P.room.1.pages,Hu,0,true⟩],turned:=Vq P.room.1.pages P.room.1.turned },0)else P.room):=rfl
  obtain⟨R,T⟩:∃ R,P.room.1=R:=⟨_,rfl⟩;obtain⟨E,U⟩:∃ E,P.room.2=E:=⟨_,rfl⟩
  have N:P.room=(R,E):=by rw[<- T,<- U]
  rw[N]at B c u o;dsimp only at B c u o;clear H ok F s z T U N v;by_cases G:E=0
  ·subst G;have k:=Ac (o.trans (AC rfl));have K:=Ac yJ;have WN:=Ac (KU (x:=(R.pages:Int)) (by omega) (by have:=c.1.few;omega))
   have aj:(R.pages:Int)<=65536:=by have:=c.1.few;omega
   obtain⟨S,V⟩:∃ S,Hu=S:=⟨_,rfl⟩;rw[V]at k K;obtain⟨E3,O⟩:∃ E,Qz 3 0 []=E:=⟨_,rfl⟩;rw[O]at K;have TL:=Ac (BN (Ux _ _ c.1.turnd c.1.turns) (BN c.1.few (by decide:65536<=100000000)))
   have r:Hid (P.Rf=R.pages):=by have:=m.out;rw[j.out,k.out]at this;exact this.trans u.2.1.symm
   have Z:Hid (∀ (w1:World) d i n2 A1,PM w1 d gd g i n2 p e h t A1 { R with pages:=R.pages+1 } ->
    Calls Tryz.prog 126 #[Cc p,Cc w1.heap.size] (w1.alloc (.cells #[.int .i64 (R.pages:Int),.string S,.int .i64 0,.bool true,.pointer none,.pointer none] 166))
     (λW w'=>W = .returned (Cc w1.heap.size)/\PM w' d gd g i n2 p e h t (A1++[w1.heap.size]) { R with pages:=R.pages+1,ring:=R.ring++[⟨R.pages,S,0,true⟩] }/\Turn (allB d g i n2 p e h t A1) (allB d g i n2 p e h t (A1++[w1.heap.size])) w1 w')):=λw1 d i n2 A1 X=>by
    have Y:Below w1.heap.size w1 (w1.alloc (.cells #[.int .i64 (R.pages:Int),.string S,.int .i64 0,.bool true,.pointer none,.pointer none] 166)):=(AU _ _).alloc (AY _) _;refine(fH (f:=⟨R.pages,S,0,true⟩) (X.below Y) (Has.new w1 _ _) (λhk=>?_) (λq aa=>?_) ?_ ?_).mono ?_
    ·have:=X.lt _ hk;omega
    ·have h4:=c.1.pages q aa;show(q.n:Int)≠(R.pages:Int);omega
    ·show R.ring.length<=1000;have:=c.1.full;have:=c.1.most;omega
    ·show R.pages<=4294967296;have:=c.1.few;omega
    ·rintro W w' ⟨he,h1,h2⟩;exact⟨he,h1,(Z7 Y (a:=w1.heap.size) (AY _)).trans h2⟩
   clear V O o m u;rw[j.out,k.out,r.out];go_enter SX,SQ
   go_upto_region 11 with(first
    |(go_at_call 125;refine B.mono ?_;rintro e2 w1 ⟨rfl,d,i,n2,A1,l,C⟩;have HM:=Ac l;have ab:=Ac C;have y4:w1.cell? ⟨p,4,none⟩=some (.int .i64 R.pages):=l.has.cell 4;have yf:=l.has.frozen;clear l C)
    |(go_at_call 122;have M:=Ac (HM.set (P':={ R with pages:=R.pages+1 }) 4 (.int .i64 ((R.pages:Int)+1)) rfl rfl rfl rfl);refine(K _).mono ?_;rintro e3 w3 ⟨rfl,I⟩;have ac:=Ac (M.1.below I);have ad:=Ac ((ab.trans M.2).trans (Turn.below _ I));clear M I)
    |(go_at_call 126;refine(Z _ _ _ _ _ ac).mono ?_;rintro e4 w4 ⟨rfl,y,Q⟩))
   have ae:=Ac y;have af:=Ac (ad.trans Q);have y6:w4.cell? ⟨p,6,none⟩=some (.map (some t)):=y.has.cell 6;have MT:=Ac y.turned;clear y Q y4 yf
   go_wp2_with (at_mapUpdate;refine BJ0 _ rfl _ _ _ 104 3 rfl PU t _ _ rfl MT TL (R.pages:Int) rfl WN _ 1 rfl [] (DJ1 1 (by omega)) ?_;intro w5 ag ah)
   go_ret2;obtain⟨s5,t5⟩:=ae.tell (n:=R.pages) ag ah;exact⟨rfl,d,i,n2,_,s5,af.trans t5⟩
  ·have k:=Ac (o.trans (AO G))
   have r:Hid (P.Rf=0):=by have:=m.out;rw[j.out,k.out,AO G]at this;exact this
   rw[j.out,k.out,r.out];clear o m c u j;have d1:decide ((67108864:Int)<((P.pages:Int)+1)*1024)=false:=EY J;clear J;go_enter SX,SQ
   go_wp2_with (go_at_call 125;refine B.mono ?_;rintro e2 w1 ⟨rfl,d,i,n2,A1,l,C⟩)
   go_ret2;exact⟨rfl,d,i,n2,A1,l,C⟩
def ZE0 (b:List (Option Nat)) (gd g m1 m2 p e h t:Nat) (A:List Nat) (P:Pl) (w:World) (H:PM w b gd g m1 m2 p e h t A P) (ok:P.ok) (ab:Fit P.L.D 4) (hf:¬ P.free=0) :
 Calls Tryz.prog 45 #[.pointer (some ⟨p,0,none⟩)] w (jG (allB b g m1 m2 p e h t A) w gd g p e h t P.alloc.1 P.Rf P.alloc.2):=by
 have fb:(P.free:Int)<=2147483647:=by have:=ok.link;omega
 have G:=Ac (bJ b gd g m1 m2 p e h t A P P.free ⟨by omega,by omega⟩ w H ok (ab.less (by omega)));have Y:=Ac (Yo ok P.free);have GF:=Ac (UK (k:=3) ab P.free)
 have I:Hid (P.alloc=if (P.get P.free).2=0 then (match Ie (P.get P.free).1.Pv.s with
  | none=>((P.get P.free).1,4)
  | some pg=>if((P.get P.free).1.Dc pg.2.1).2=0 then((P.get P.free).1.Dc pg.2.1).1.put P.free Hu else(P.get P.free).1.Dc pg.2.1)else P.get P.free):=AO hf
 have C:Hid (P.Rf=if P.alloc.2=0 then P.free else 0):=by
  have:P.Aj=P.free:=AO hf;unfold Pl.Rf;rw[this];exact Ac rfl
 have Z:Hid (P.text P.free=if(P.get P.free).2=0 then(P.get P.free).1.Pv.s else⟨#[]⟩):=rfl;have x5:w.cell? ⟨p,5,none⟩=some (.int .i64 P.free):=H.has.cell 5
 have f0:((P.free:Int) == 0)=false:=by rw[FK];omega
 obtain⟨T,hT⟩:∃ T,P.text P.free=T:=⟨_,rfl⟩;obtain⟨Q,hQ⟩:∃ Q,(P.get P.free).1=Q:=⟨_,rfl⟩;obtain⟨E,hE⟩:∃ E,(P.get P.free).2=E:=⟨_,rfl⟩
 have x:P.get P.free=(Q,E):=by rw[<- hQ,<- hE]
 rw[hT,hQ,hE]at G Z;rw[hQ]at Y GF;rw[x]at I;dsimp only at I;obtain⟨N,hN⟩:∃ N,P.free=N:=⟨_,rfl⟩;rw[hN]at G I C x5 f0 fb;clear H ok ab hT hQ hE x hf hN;by_cases n:E=0
 ·subst n;have af:=Ac (Z.trans (AC rfl));have y:=Ac (I.trans (AC rfl));rw[<- af.out]at y
  have TZ:T.size<=1048576:=by rw[af.out];exact BN (kU Y) (by omega)
  have OP:=Ac (λw=>aW T TZ w);clear I Z TZ
  cases J:Ie T with
  | none =>
    have K:Hid (∀ w,Calls Tryz.prog 124 #[.string T] w λe w'=>e = .returned (.tuple #[.agg #[.int .i64 0,.int .i64 0,.slice none 0 0],.int .i64 4])/\Below w.heap.size w w'):=λw=>by
     have:=OP w;rw[J]at this;exact this
    have o:Hid (P.alloc=(Q,4)):=by have:=y.out;rw[J]at this;exact this
    have i:Hid (P.Rf=0):=by have:=C.out;rw[o.out]at this;exact this
    rw[o.out,i.out];clear OP y J;go_enter SX,SQ
    go_wp2_with (first
     |(go_at_call 70;refine G.mono ?_;rintro f w1 ⟨rfl,j,m,n2,A1,a,d⟩;have u:=Ac a;have q:=Ac d;clear a d)
     |(go_at_call 124;refine(K _).mono ?_;rintro f w2 ⟨rfl,hb2⟩))
    go_ret2;have ag:=hb2.alloc hb2.size (.cells #[.int .i64 0,.int .i64 0,.slice none 0 0] 114);exact⟨rfl,j,m,n2,A1,u.below ag,q.trans (Turn.below _ ag)⟩
  | some pg =>
    obtain⟨k,l,cs⟩:=pg;have hv:=Nz.1 J;have hl:l<=2147483647:=hv.2.2.1
    have K:Hid (∀ w,Calls Tryz.prog 124 #[.string T] w λe w'=>∃ A c,e = .returned (.tuple #[.agg #[.int .i64 k,.int .i64 l,.slice A cs.length c],.int .i64 0])/\SS w' A cs.length cs/\Below w.heap.size w w'):=λw=>by
     have:=OP w;rw[J]at this;exact this
    have o:Hid (P.alloc=if(Q.Dc l).2=0 then(Q.Dc l).1.put N Hu else Q.Dc l):=by have:=y.out;rw[J]at this;exact this
    have W:=Ac (λj m n2 A1 w1 (hq:PM w1 j gd g m n2 p e h t A1 Q)=>DK0 j gd g m n2 p e h t A1 Q l hl w1 hq Y (GF.less (by omega)))
    have ac:=Ac (AM1 Y hl);have ad:=Ac (SQ0 (k:=1) GF l);obtain⟨R,hR⟩:∃ R,(Q.Dc l).1=R:=⟨_,rfl⟩;obtain⟨E2,ah⟩:∃ E,(Q.Dc l).2=E:=⟨_,rfl⟩
    have x:Q.Dc l=(R,E2):=by rw[<- hR,<- ah]
    rw[x]at o W ac ad;dsimp only at o W ac ad;clear OP y J hv hl hR ah x;by_cases n:E2=0
    ·subst n;have F:=Ac (o.trans (AC rfl));have SB:=Ac yJ;obtain⟨E3,ai⟩:∃ E,Qz 3 0 []=E:=⟨_,rfl⟩;obtain⟨S,hS⟩:∃ S,Hu=S:=⟨_,rfl⟩;rw[ai,hS]at SB;rw[hS]at F;have PT:=Ac (λj m n2 A1 w1 (hq:PM w1 j gd g m n2 p e h t A1 R)=>ZZ j gd g m n2 p e h t A1 R N ⟨by omega,by omega⟩ S w1 hq ac ad)
     obtain⟨M,hM⟩:∃ R',(R.put N S).1=R':=⟨_,rfl⟩;obtain⟨E4,aj⟩:∃ E,(R.put N S).2=E:=⟨_,rfl⟩
     have x:R.put N S=(M,E4):=by rw[<- hM,<- aj]
     rw[x]at F PT;dsimp only at PT;have i:=C.out;rw[F.out]at i;dsimp only at i;clear o ai hS hM aj x C;rw[F.out];by_cases n:E4=0
     ·subst n;have r:=Ac (i.trans (AC rfl));rw[r.out];clear i;go_enter SX,SQ
      go_wp2_with (first |(go_at_call 70;refine G.mono ?_;rintro f w1 ⟨rfl,j,m,n2,A1,a,d⟩;have u:=Ac a;have q:=Ac d;clear a d) |(go_at_call 124;refine(K _).mono ?_;rintro f w2 ⟨A2,X,rfl,O,hb2⟩;have z:=Ac (hb2.alloc hb2.size (.cells #[.int .i64 k,.int .i64 l,.slice A2 cs.length X] 114));clear O) |(go_at_call 127;refine(W _ _ _ _ _ (u.below z)).mono ?_;rintro f w3 ⟨rfl,b3,n3,n4,A3,v,B⟩;have U:=Ac v;have r:=Ac ((q.trans (Turn.below _ z)).trans B);clear v B) |(go_at_call 122;refine(SB _).mono ?_;rintro e3 w4 ⟨rfl,V⟩) |(go_at_call 128;refine(PT _ _ _ _ _ (U.below V)).mono ?_;rintro f w5 ⟨rfl,b5,n5,n6,A5,aa,ae⟩))
      go_ret2;exact⟨rfl,b5,n5,n6,A5,aa,(r.trans (Turn.below _ V)).trans ae⟩
     ·have r:=Ac (i.trans (AO n));rw[r.out];clear i;go_enter SX,SQ
      go_wp2_with (first |(go_at_call 70;refine G.mono ?_;rintro f w1 ⟨rfl,j,m,n2,A1,a,d⟩;have u:=Ac a;have q:=Ac d;clear a d) |(go_at_call 124;refine(K _).mono ?_;rintro f w2 ⟨A2,X,rfl,O,hb2⟩;have z:=Ac (hb2.alloc hb2.size (.cells #[.int .i64 k,.int .i64 l,.slice A2 cs.length X] 114));clear O) |(go_at_call 127;refine(W _ _ _ _ _ (u.below z)).mono ?_;rintro f w3 ⟨rfl,b3,n3,n4,A3,v,B⟩;have U:=Ac v;have r:=Ac ((q.trans (Turn.below _ z)).trans B);clear v B) |(go_at_call 122;refine(SB _).mono ?_;rintro e3 w4 ⟨rfl,V⟩) |(go_at_call 128;refine(PT _ _ _ _ _ (U.below V)).mono ?_;rintro f w5 ⟨rfl,b5,n5,n6,A5,aa,ae⟩))
      go_ret2;exact⟨rfl,b5,n5,n6,A5,aa,(r.trans (Turn.below _ V)).trans ae⟩
    ·have F:=Ac (o.trans (AO n))
     have i:Hid (P.Rf=0):=by have:=C.out;rw[F.out,AO n]at this;exact this
     rw[F.out,i.out];clear o C;go_enter SX,SQ
     go_wp2_with (first |(go_at_call 70;refine G.mono ?_;rintro f w1 ⟨rfl,j,m,n2,A1,a,d⟩;have u:=Ac a;have q:=Ac d;clear a d) |(go_at_call 124;refine(K _).mono ?_;rintro f w2 ⟨A2,X,rfl,O,hb2⟩;have z:=Ac (hb2.alloc hb2.size (.cells #[.int .i64 k,.int .i64 l,.slice A2 cs.length X] 114));clear O) |(go_at_call 127;refine(W _ _ _ _ _ (u.below z)).mono ?_;rintro f w3 ⟨rfl,b3,n3,n4,A3,v,B⟩;have U:=Ac v;have r:=Ac ((q.trans (Turn.below _ z)).trans B);clear v B))
     go_ret2;exact⟨rfl,b3,n3,n4,A3,U,r⟩
 ·have y:=Ac (I.trans (AO n))
  have i:Hid (P.Rf=0):=by have:=C.out;rw[y.out,AO n]at this;exact this
  rw[y.out,i.out];clear I Z C;go_enter SX,SQ
  go_wp2_with (go_at_call 70;refine G.mono ?_;rintro f w1 ⟨rfl,j,m,n2,A1,a,d⟩;have u:=Ac a;have q:=Ac d;clear a d)
  go_ret2;exact⟨rfl,j,m,n2,A1,u,q⟩
def AJ1 (b:List (Option Nat)) (gd g m1 m2 p e h t:Nat) (A:List Nat) (P:Pl) (w:World) (H:PM w b gd g m1 m2 p e h t A P) (ok:P.ok) (a:Fit P.L.D 4) :
 Calls Tryz.prog 45 #[.pointer (some ⟨p,0,none⟩)] w (jG (allB b g m1 m2 p e h t A) w gd g p e h t P.alloc.1 P.Rf P.alloc.2):=by
 by_cases c:P.free=0
 ·exact GZ1 b gd g m1 m2 p e h t A P w H ok (a.less (by omega)) c
 ·exact ZE0 b gd g m1 m2 p e h t A P w H ok a c
def IF1 (b:List (Option Nat)) (gd g m1 m2 p e h t:Nat) (A:List Nat) (P:Pl) (x:Int) (J:QJ x) (w:World) (H:PM w b gd g m1 m2 p e h t A P) (ok:P.ok) (l:Fit P.L.D 3) :
 Calls Tryz.prog 80 #[.pointer (some ⟨p,0,none⟩),.int .i64 x] w (W9 (allB b g m1 m2 p e h t A) w gd g p e h t (P.O6 x).1 (P.O6 x).2):=by
 have v:=Ac H;by_cases d:x=0
 ·have a:Hid (P.O6 x=(P,1)):=AC d;rw[a.out];subst d;clear H ok l;go_enter Tryz.func80,Tryz.ntmps80
  go_wp2_with fail
  go_ret;exact⟨rfl,b,m1,m2,A,v,Turn.refl _ _⟩
 ·have a:Hid (P.O6 x=if (P.put x (Dj 3 P.free [])).2=0 then (P.put x (Dj 3 P.free [])).1.Dc x.toNat else P.put x (Dj 3 P.free [])):=AO d;have e0:(x == 0)=false:=FK.2 d;have x5:w.cell? ⟨p,5,none⟩=some (.int .i64 P.free):=H.has.cell 5;have m:=Ac (λw=>sJ P.free w);have o:(Dj 3 P.free []).size=1024:=Rh (K:=3) (by omega) (by omega) ok.link (by decide);obtain⟨S,M⟩:∃ S,Dj 3 P.free []=S:=⟨_,rfl⟩;obtain⟨E3,F⟩:∃ E,Qz 3 P.free []=E:=⟨_,rfl⟩;rw[M]at a m o;rw[F]at m;have PT:=Ac (λw1 (y:PM w1 b gd g m1 m2 p e h t A P)=>ZZ b gd g m1 m2 p e h t A P x J S w1 y ok (l.less (by omega)));have q:=Ac (lG ok x o);have z:=Ac (BT1 (k:=2) l x S);have X:=Ac ok.few
  have c:Hid ((P.put x S).2=0->0<=x/\x<(P.pages:Int)):=λB=>by
   have Z:(P.get x).2=0:=by
    unfold Pl.put at B;by_cases N:(P.get x).2=0
    ·exact N
    ·rw[AO N]at B;exact B
   obtain⟨F0,f,hF,aa,i0,i1⟩:=Qb ok Z;exact⟨i0,i1⟩
  obtain⟨R,O⟩:∃ R',(P.put x S).1=R':=⟨_,rfl⟩;obtain⟨E,Q⟩:∃ E,(P.put x S).2=E:=⟨_,rfl⟩
  have G:P.put x S=(R,E):=by rw[<- O,<- Q]
  rw[G]at a PT q z c;dsimp only at a PT q z c;clear H ok l d M F O Q G o;by_cases I:E=0
  ·subst I;have r:=Ac (a.trans (AC rfl))
   obtain⟨n,rfl⟩:∃ n:Nat,x=n:=⟨x.toNat,by have:=c rfl;omega⟩
   have SF:=Ac (λT j n2 A1 w1 (y:PM w1 T gd g j n2 p e h t A1 R)=>DK0 T gd g j n2 p e h t A1 R n (by have:=c rfl;have:=X.out;omega) w1 y q z);rw[r.out,IR];clear a c J;go_enter Tryz.func80,Tryz.ntmps80
   go_wp2_with (first
    |(go_at_call 122;refine(m _).mono ?_;rintro e3 w1 ⟨rfl,s⟩;have i:=Ac s)
    |(go_at_call 128;refine(PT _ (v.below i)).mono ?_;rintro U w2 ⟨rfl,V,j,n2,A2,u,C⟩)
    |(go_at_call 127;refine(SF _ _ _ _ _ u).mono ?_;rintro U w3 ⟨rfl,b3,n3,n4,A3,W,Y⟩))
   go_ret;exact⟨rfl,b3,n3,n4,A3,W,((Turn.below _ i).trans C).trans Y⟩
  ·have r:=Ac (a.trans (AO I));rw[r.out];clear a c;go_enter Tryz.func80,Tryz.ntmps80
   go_wp2_with (first
    |(go_at_call 122;refine(m _).mono ?_;rintro e3 w1 ⟨rfl,s⟩;have i:=Ac s)
    |(go_at_call 128;refine(PT _ (v.below i)).mono ?_;rintro U w2 ⟨rfl,V,j,n2,A2,u,C⟩))
   go_ret;exact⟨rfl,V,j,n2,A2,u,(Turn.below _ i).trans C⟩
open Go.Maps
def FQ0{R:Value->Option (DataW Unit×List MemPlace)}{w w':World}{b r n cnt:Nat}{D:DataW Unit}{left:Lit->Bool}(h:w.ranges Tryz.prog 3 R b r n D left cnt)(e:w'.heap[b]? = w.heap[b]?)(f:w'.heap[r]? = w.heap[r]?):w'.ranges Tryz.prog 3 R b r n D left cnt:=by
 obtain⟨g,a,c,seen,c0,i,F,j,k,l,d⟩:=h;exact⟨g,a,c,seen,c0,e.trans i,F,j,k,f.trans l,d⟩
def PV1{v:Value}{y:DataW Unit×List MemPlace}(h:Nj v=some y):∃ c,v=MN c:=by
 unfold Nj at h
 split at h
 ·exact⟨none,rfl⟩
 ·exact⟨some _,rfl⟩
 ·cases h
def uJ{D:DataW Unit}{g:Int->Option Nat}(h:Says D g){x:Int}{d:DataW Unit}(b:∀ zd,D.atKey (.int .i64 x) zd=d):∃ c,g x=some c/\d = .lit (.int .i64 (c:Int)):=by
 cases f:g x with
 | none =>
   exfalso;have i:=(h x).1 f;have a:=b (.lit (.int .i64 0));have e:=b (.lit (.int .i64 1));rw[atKey_of_not_has i]at a e;rw[<- a]at e
   cases e
 | some c =>
   have a:=b (.lit (.int .i64 0));rw[(h x).2 c f]at a;exact⟨c,rfl,a.symm⟩
def Yu (w:World) {ops:Array Oper} {f:List Oper} {o:Oper} {a:Act} {Q:Exit->Act->World->Prop} (H:o.guard=none) (it:Operand) (s:o.op=Op.next it false) (b r n:Nat) (D:DataW Unit) (left:Lit->Bool) (cnt:Nat)
 (t:a.eval it = .pointer (some ⟨r,0,none⟩)) (h:w.ranges Tryz.prog 3 Nj b r n D left cnt) (g:Int->Option Nat) (I:Says D g)
 (p:cnt=0->(∀ j,left j=false)->wpList Tryz.prog ops Q f (a.put o.dst (.tuple #[.bool false])) w)
 (q:∀ (x:Int) (c:Nat) (w':World) (e:Nat),g x=some c->left (.int .i64 x)=true->w'.ranges Tryz.prog 3 Nj b r n D (λz=>left z && !z.sameKey (.int .i64 x)) e->e<cnt ->
   w.grownBy w' (some r)->w'.heap.size=w.heap.size->(Instr.entry (.pointer (some ⟨r,0,none⟩))).run Tryz.prog w' = .ok (.tuple #[.int .i64 x,Cc c]) w'->wpList Tryz.prog ops Q f (a.put o.dst (.tuple #[.bool true,.int .i64 x,Cc c])) w') :
 wpList Tryz.prog ops Q (o :: f) a w :=
 wpList_next_ranges w H it s 3 Ol Nj (Value.int .i64) MN (λkey j i=>by obtain ⟨x,rfl,_⟩:=Maps.keyOf_int_inv IB i;exact ⟨x,rfl⟩) (λv y k=>PV1 k)
  b r n D left cnt t h p (λx c j y w' e i u k A B C E F l=>by
    obtain⟨O,J,rfl,N⟩:=Maps.keyOf_int_inv IB i
    cases J
    obtain⟨d,G,m⟩:=uJ I A;obtain⟨P,R⟩:=y;dsimp only at m;subst m
    rcases kL k with⟨K,_⟩ |⟨z,K,L⟩
    ·omega
    ·have:z=d:=by omega
     subst this;have M:MN c=Cc z:=L;rw[M]at l ⊢
     exact q x z w' e G u B C E F l)
def Rz:∀ {A:List Nat} {F:List Pf} {x:Int} {a:Nat},Dl A F x=some a->∃ A1 A2 F1 f F2,A=A1++a :: A2/\F=F1++f :: F2/\A1.length=F1.length/\(f.n:Int)=x
 | [],_,_,_,h=>by cases ‹List Pf› <;> cases h
 | _ :: _,[],_,_,h=>by cases h
 | a0 :: A,f0 :: F,x,a,h=>by
   rw[Dl]at h;by_cases b:(f0.n:Int)=x
   ·rw [AC b] at h
    cases h
    exact⟨[],A,[],f0,F,rfl,rfl,rfl,b⟩
   ·rw [AO b] at h;obtain⟨A1,A2,F1,f,F2,c,d,e,g⟩:=Rz h;exact⟨a0 :: A1,A2,f0 :: F1,f,F2,by rw[c];rfl,by rw[d];rfl,by simp[e],g⟩
def AT1{T:List Nat}{x:Int}{c:Nat}(h:Pj T x=some c):∃ n∈T,(n:Int)=x:=by
 unfold Pj at h
 split at h
 ·assumption
 ·cases h
section
variable {w w':World} {b b':List (Option Nat)} {gd g m1 m2 m1' m2' p e h t:Nat} {A A1 A2:List Nat} {a:Nat} {P:Pl}
def MQ1 (H:PM w b gd g m1 m2 p e h t A P) (ok:P.L.ok) :
 Calls Tryz.prog 163 #[Cc g] w (UD (allB b g m1 m2 p e h t A) w gd g p e h t A { P with L:=P.L.back } (.tuple #[])):=by
 refine(KT1 b gd g m1 m2 P.L.rw w H.log (show P.L.kept<=_ by have:=ok.len;have:=ok.kept;omega)).mono λk w' a=>?_;rw[<- NR1 ok]at a;obtain⟨c,b',m1',m2',d,f⟩:=a;obtain⟨i,j⟩:=H.ZU d f;exact⟨c,b',m1',m2',i,j⟩
end
end Go.Proofs.YtjihboddejaelaaGreat
namespace Go.Proofs.YtjihboddejaelaaGreat
open Go.RowKit Go.BigFrame
def Pl.fresh(L:Lg)(most:Nat):Pl:=⟨L,most,[],L.pages,0,[],0,0,0⟩
def Pl.Qp(L:Lg)(most:Nat):Pl×Int :=
 if L.rw.Dy 0=0 then
  match Ie (L.rw.Fa 0)with
  | none=>(Pl.fresh L most,4)
  | some pg=>({ Pl.fresh L most with free:=pg.2.1 },0)
 else(Pl.fresh L most,L.rw.Dy 0)
theorem NJ1(w:World):(Instr.makeMap 103 none).run Tryz.prog w = .ok (.map (some w.heap.size)) (w.alloc (.map #[] 0)):=rfl
theorem ZH(w:World):(Instr.makeMap 104 none).run Tryz.prog w = .ok (.map (some w.heap.size)) (w.alloc (.map #[] 0)):=rfl
def JT1(g most:Nat):Array Value:=#[Cc g,.int .i64 most,.pointer none,.map none,.int .i64 0,.int .i64 0,.map none,.int .i64 0,.int .i64 0,.int .i64 0]
def YG0(w:World)(b:List (Option Nat))(gd g m1 m2 p:Nat)(P:Pl)(E:Int)(a:Ending)(w':World):Prop :=
 a = .returned (.int .i64 E)/\∃ e h t,PM w' b gd g m1 m2 p e h t [] P/\Turn (some p :: (b++lb g m1 m2)) (allB b g m1 m2 p e h t []) w w'
def Turn.more{b b':List (Option Nat)}{w w':World}(h:Turn b b' w w'){a:Nat}(d:w.heap.size<=a):Turn b (some a :: b') w w' :=
 ⟨h.os,h.tape,h.output,h.size,h.block,λk c=>by
   rcases BI.1 c with c | c
   ·cases c;exact .inr d
   ·exact h.new k c⟩
def PM.made {w:World} {b:List (Option Nat)} {gd g m1 m2 p a c n2:Nat} {L:Lg} {most:Nat} (e:LR w b gd g m1 m2 L.rw) (f:Has w p 106 #[Cc g,.int .i64 most,Cc a,.map (some c),.int .i64 0,.int .i64 0,.map (some n2),.int .i64 0,.int .i64 0,.int .i64 0])
 (h:Has w a 166 (JO QE a a)) (i:GM Nj w c (λ_=>none) 0) (j:GM (plainElem Tryz.prog 3) w n2 (λ_=>none) 0) (d:p≠a) (k:c≠n2) (l:QO (b++lb g m1 m2) (pb p a c n2 [])) :
 PM w b gd g m1 m2 p a c n2 [] { Pl.fresh L most with pages:=0 } :=
 ⟨e,f,⟨by simp,h,rfl⟩,i.congr (λx=>rfl),j.congr (λx=>by unfold Pj;rw[AO];rintro⟨m,n,_⟩;cases n),by simpa using d,k,l⟩
def GD0 (b:List (Option Nat)) (gd g m1 m2 p:Nat) (L:Lg) (most:Nat) (w:World) (hl:LR w b gd g m1 m2 L.rw) (ok:L.ok) (u:Has w p 106 (JT1 g most)) (aa:some p∉b++lb g m1 m2) :
 Calls Tryz.prog 42 #[.pointer (some ⟨p,0,none⟩)] w (YG0 w b gd g m1 m2 p (Pl.Qp L most).1 (Pl.Qp L most).2):=by
 have S:=Ac hl;have HP:=Ac u;have H:=Ac aa;have ab:=u.lt;have ag:=NJ1;have ah:=ZH;have x2:w.cell? ⟨p,2,none⟩=some (.pointer none):=u.cell 2;have xf:=u.frozen;have OK:=Ac ok;clear hl u aa ok;go_enter Tryz.func42,Tryz.ntmps42
 go_upto_region 2 with fail
 obtain⟨d,z⟩:∃ n,w.heap.size=n:=⟨_,rfl⟩;have X:=Ac ((HP.set 2 (Cc d)).alloc (.cells #[.int .i64 0,.string ⟨#[]⟩,.int .i64 0,.bool false,.pointer none,.pointer none] 166));have v:=Ac (Has.new (w.setCell ⟨p,2,none⟩ (Cc d)) 166 #[.int .i64 0,.string ⟨#[]⟩,.int .i64 0,.bool false,.pointer none,.pointer none])
 have Z:(w.setCell ⟨p,2,none⟩ (Cc d)).heap.size=d:=by rw[<- z];simp
 rw[Z]at v;have T1:=Ac ((Eu [some p] p 2 (Cc d) w (BH.2 rfl)).trans (Turn.below [some p] ((AU _ (w.setCell ⟨p,2,none⟩ (Cc d))).alloc (AY _) (.cells #[.int .i64 0,.string ⟨#[]⟩,.int .i64 0,.bool false,.pointer none,.pointer none] 166))));have Z1:Hid (((w.setCell ⟨p,2,none⟩ (Cc d)).alloc (.cells #[.int .i64 0,.string ⟨#[]⟩,.int .i64 0,.bool false,.pointer none,.pointer none] 166)).heap.size=d+1):=Ac (by rw[ED,Z]);rw[z]at ab;simp only[z];have I:=Ac z;clear z x2 xf Z;generalize (w.setCell ⟨p,2,none⟩ (Cc d)).alloc (.cells #[.int .i64 0,.string ⟨#[]⟩,.int .i64 0,.bool false,.pointer none,.pointer none] 166)=W at *
 have y2:W.cell? ⟨p,2,none⟩=some (Cc d):=X.cell 2;have z4:W.cell? ⟨d,4,none⟩=some (.pointer none):=v.cell 4;have z5:W.cell? ⟨d,5,none⟩=some (.pointer none):=v.cell 5;have zf:=v.frozen
 go_region
 have pn:¬ p=d:=by omega
 have x:=Ac ((X.far (p:=⟨d,4,none⟩) pn (Cc d)).far (p:=⟨d,5,none⟩) pn (Cc d));have N2:Hid (Has ((W.setCell ⟨d,4,none⟩ (Cc d)).setCell ⟨d,5,none⟩ (Cc d)) d 166 (JO QE d d)):=(v.set 4 (Cc d)).set 5 (Cc d);have T2:=Ac (((T1.more (a:=d) (bY I)).trans (Eu _ d 4 (Cc d) W (AZ ..))).trans (Eu _ d 5 (Cc d) _ (AZ ..)));have Z2:Hid (((W.setCell ⟨d,4,none⟩ (Cc d)).setCell ⟨d,5,none⟩ (Cc d)).heap.size=d+1):=Ac (by simp;exact Z1);clear y2 z4 z5 zf pn;generalize (W.setCell ⟨d,4,none⟩ (Cc d)).setCell ⟨d,5,none⟩ (Cc d)=V at *;have v3:V.cell? ⟨p,3,none⟩=some (.map none):=x.cell 3;have v6:V.cell? ⟨p,6,none⟩=some (.map none):=x.cell 6;have vf:=x.frozen;have vz:=x.lt
 go_upto_region 5 with fail
 obtain⟨i,J⟩:∃ n,V.heap.size=n:=⟨_,rfl⟩;simp only[J];obtain⟨n2,N⟩:∃ n,i+1=n:=⟨_,rfl⟩;simp only[N]
 have e1:d+1=i:=by rw[<- J];exact Z2.symm
 have P3:=(x.set 3 (.map (some i))).set 6 (.map (some n2));have N3:=(N2.far (p:=⟨p,3,none⟩) (by show ¬ d=p;omega) (.map (some i))).far (p:=⟨p,6,none⟩) (by show ¬ d=p;omega) (.map (some n2));have L3:=(S.far T2 (λk f j=>H (BH.1 f ▸ j))).far ((Eu [some p] p 3 (.map (some i)) V (BH.2 rfl)).trans (Eu [some p] p 6 (.map (some n2)) _ (BH.2 rfl))) (λk f j=>H (BH.1 f ▸ j));have T3:=(T2.trans (Eu _ p 3 (.map (some i)) V (BF _ (BH.2 rfl)))).trans (Eu _ p 6 (.map (some n2)) _ (BF _ (BH.2 rfl)))
 have z3:((V.setCell ⟨p,3,none⟩ (.map (some i))).setCell ⟨p,6,none⟩ (.map (some n2))).heap.size=i:=by simp[J]
 clear v3 v6 vf vz J;generalize (V.setCell ⟨p,3,none⟩ (.map (some i))).setCell ⟨p,6,none⟩ (.map (some n2))=U at *;have M1:=(GM.made Nj U).below ((AU _ _).alloc (AY _) (.map #[] 0));have M2:=GM.made (plainElem Tryz.prog 3) (U.alloc (.map #[] 0));rw[ED,z3,N]at M2;rw[z3]at M1;have B:Below U.heap.size U ((U.alloc (.map #[] 0)).alloc (.map #[] 0)):=((AU _ _).alloc (AY _) _).alloc (by simp) _;have ac:=λ(k:Nat) (f:some k∈b++lb g m1 m2)=>S.lt f
 have ad:PM ((U.alloc (.map #[] 0)).alloc (.map #[] 0)) b gd g m1 m2 p d i n2 [] { Pl.fresh L most with pages:=0 }:=by
  refine PM.made (L3.below B) (P3.Ai B) (N3.Ai B) M1 M2 (by omega) (by omega) (λk o j=>?_);have h4:=ac k o;have h5:=I.out
  rcases Fb.1 j with rfl | rfl | rfl | j
  ·exact H o
  ·omega
  ·omega
  ·have:k=d:=by simpa using j
   omega
 have TX:Turn [some p] (pb p d i n2 []) w ((U.alloc (.map #[] 0)).alloc (.map #[] 0)):=by
  have o:=T3.trans (Turn.below _ B);refine⟨o.os,o.tape,o.output,o.size,o.block,λk f=>?_⟩;have h5:=I.out
  rcases Fb.1 f with rfl | rfl | rfl | j
  ·exact .inl (BH.2 rfl)
  ·exact .inr (by omega)
  ·exact .inr (by omega)
  ·have:k=d:=by simpa using j
   exact .inr (by omega)
 have q:=Ac (ad.below ((AU _ _).drew))
 have O:=Ac ((TX.trans (Turn.below _ ((AU _ ((U.alloc (.map #[] 0)).alloc (.map #[] 0))).drew))).left (b++lb g m1 m2) |>.wide (c:=some p :: (b++lb g m1 m2)) (c':=allB b g m1 m2 p d i n2 []) (λk f=>by
  rcases BO.1 f with f | f
  ·rw[BH.1 f];exact AZ ..
  ·exact BF _ f) (λk f=>by
  rcases BO.1 f with f | f
  ·exact .inr (BF _ f)
  ·exact .inl (BL _ f)))
 have ai:p<U.heap.size:=P3.lt;clear P3 N3 L3 T3 M1 M2 B ac ad TX S HP H ab ag ah I X v T1 Z1 x N2 T2 Z2 e1 N z3 ai;generalize (((U.alloc (.map #[] 0)).alloc (.map #[] 0)).drew)=Y at *;have y0:Y.cell? ⟨p,0,none⟩=some (Cc g):=q.has.cell 0;have y4:Y.cell? ⟨p,4,none⟩=some (.int .i64 0):=q.has.cell 4;have y5:Y.cell? ⟨p,5,none⟩=some (.int .i64 0):=q.has.cell 5;have yf:=q.has.frozen;have yz:=q.has.lt;have PG:=Ac (aZ b gd g m1 m2 L.rw Y q.log);have r:=Ac (q.set (P':=Pl.fresh L most) 4 (.int .i64 L.pages) rfl rfl rfl rfl);have C:=Ac (CN1 r.1 OK 0)
 have D:Hid (Pl.Qp L most=if L.rw.Dy 0=0 then (match Ie (L.rw.Fa 0) with
  | none=>(Pl.fresh L most,4)
  | some pg=>({ Pl.fresh L most with free:=pg.2.1 },0))else(Pl.fresh L most,L.rw.Dy 0)):=rfl
 have K:Hid (L.rw.Dy 0=0->(L.rw.Fa 0).size=1024):=λh=>vM OK h;have e2:(Pl.fresh L most).L=L:=rfl;rw[e2]at C;obtain⟨T,hT⟩:∃ T,L.rw.Fa 0=T:=⟨_,rfl⟩;obtain⟨E,hE⟩:∃ E,L.rw.Dy 0=E:=⟨_,rfl⟩;rw[hT,hE]at C D K;have P:Hid (Calls Tryz.prog 39 #[Cc g] Y λe w'=>e = .returned (.int .i64 L.pages)/\Y=w'):=PG.out;clear hT hE e2 PG;by_cases ae:E=0
 ·subst ae;have t:=Ac (D.trans (AC rfl))
  have TZ:T.size<=1048576:=by have:=K rfl;omega
  have M:=Ac (λw=>aW T TZ w);clear D TZ K
  cases y:Ie T with
  | none =>
    have Q:Hid (∀ w,Calls Tryz.prog 124 #[.string T] w λe w'=>e = .returned (.tuple #[.agg #[.int .i64 0,.int .i64 0,.slice none 0 0],.int .i64 4])/\Below w.heap.size w w'):=λw=>by
     have:=M w;rw[y]at this;exact this
    have R:Hid (Pl.Qp L most=(Pl.fresh L most,4)):=by have:=t.out;rw[y]at this;exact this
    clear M t y
    go_wp2_with (first
     |(go_at_call 39;refine P.mono ?_;rintro s w1 ⟨rfl,rfl⟩)
     |(go_at_call 123;refine C.mono ?_;rintro s w1 ⟨rfl,rfl⟩)
     |(go_at_call 124;refine(Q _).mono ?_;rintro s m ⟨rfl,hb2⟩;obtain⟨hc,aj⟩:=Yj hb2;have hz:=hb2.size;(try simp at hz);have ak:p<m.heap.size:=(by omega)))
    go_ret;rw[R.out];have q1:=r.1.below hb2;have F:=q1.set (P':=Pl.fresh L most) 5 (.int .i64 0) rfl rfl rfl rfl;have G:Below (m.setCell ⟨p,5,none⟩ (.int .i64 0)).heap.size (m.setCell ⟨p,5,none⟩ (.int .i64 0)) ((m.setCell ⟨p,5,none⟩ (.int .i64 0)).alloc (.cells #[.int .i64 0,.int .i64 0,.slice none 0 0] 114)):=(AU _ _).alloc (AY _) _;exact⟨rfl,d,i,n2,F.1.below G,(((O.trans r.2).trans (Turn.below _ hb2)).trans F.2).trans (Turn.below _ G)⟩
  | some pg =>
    obtain⟨k,l,cs⟩:=pg
    have Q:Hid (∀ w,Calls Tryz.prog 124 #[.string T] w λe w'=>∃ A c,e = .returned (.tuple #[.agg #[.int .i64 k,.int .i64 l,.slice A cs.length c],.int .i64 0])/\SS w' A cs.length cs/\Below w.heap.size w w'):=λw=>by
     have:=M w;rw[y]at this;exact this
    have R:Hid (Pl.Qp L most=({ Pl.fresh L most with free:=l },0)):=by have:=t.out;rw[y]at this;exact this
    clear M t y
    go_wp2_with (first
     |(go_at_call 39;refine P.mono ?_;rintro s w1 ⟨rfl,rfl⟩)
     |(go_at_call 123;refine C.mono ?_;rintro s w1 ⟨rfl,rfl⟩)
     |(go_at_call 124;refine(Q _).mono ?_;rintro s m ⟨A2,c2,rfl,al,hb2⟩;clear al;obtain⟨hc,aj⟩:=Yj hb2;have hz:=hb2.size;(try simp at hz);have ak:p<m.heap.size:=(by omega)))
    go_ret;rw[R.out];have q1:=r.1.below hb2;have F:=q1.set (P':={ Pl.fresh L most with free:=l }) 5 (.int .i64 l) rfl rfl rfl rfl;have G:Below (m.setCell ⟨p,5,none⟩ (.int .i64 l)).heap.size (m.setCell ⟨p,5,none⟩ (.int .i64 l)) ((m.setCell ⟨p,5,none⟩ (.int .i64 l)).alloc (.cells #[.int .i64 k,.int .i64 l,.slice A2 cs.length c2] 114)):=(AU _ _).alloc (AY _) _;exact⟨rfl,d,i,n2,F.1.below G,(((O.trans r.2).trans (Turn.below _ hb2)).trans F.2).trans (Turn.below _ G)⟩
 ·have t:=Ac (D.trans (AO ae));clear D K
  go_wp2_with (first
   |(go_at_call 39;refine P.mono ?_;rintro s w1 ⟨rfl,rfl⟩)
   |(go_at_call 123;refine C.mono ?_;rintro s w1 ⟨rfl,rfl⟩))
  go_ret;rw[t.out];exact⟨rfl,d,i,n2,r.1,O.trans r.2⟩
open Go.Maps
structure YY where
 sl:Nat
 nu:Nat
 f:Nat
 p:Nat
def Kr (l:List UInt8) (p0:Nat):Nat->YY
 | 0=>⟨0,0,0,p0⟩
 | k+1=>if(Az l k).1≠0/\((Kr l p0 k).nu=0\/(Az l k).1=(Kr l p0 k).nu % 3+1)then⟨k,(Az l k).1,(Az l k).2.1,(Az l k).2.2⟩else Kr l p0 k
def Ox(gd:Nat)(a b c d:Value)(S:YY):Array Value:=#[.pointer (some ⟨gd,0,none⟩),a,b,c,.int .i64 S.f,.int .i64 S.p,d,.int .i64 S.sl,.int .i64 S.nu]
def lastOf(l:List UInt8)(p0:Nat):YY:=if l.take 16=Jb then Kr l p0 2 else⟨0,0,0,p0⟩
def TX0{l:List UInt8}{p0:Nat}(h:Cj l=2):lastOf l p0=⟨0,0,0,p0⟩:=by
 unfold lastOf
 split
 ·rename_i c;unfold Cj at h
  split at h
  ·rename_i a
   rcases a with a | a
   ·exact absurd c a
   ·rw[Kr,AO (λb=>b.1 a.2),Kr,AO (λb=>b.1 a.1)];rfl
  ·split at h <;> cases h
 ·rfl
def TL0{l:List UInt8}{p0:Nat}(h:Cj l≠2):lastOf l p0=⟨Cj l,(Az l (Cj l)).1,(Az l (Cj l)).2.1,(Az l (Cj l)).2.2⟩:=by
 obtain⟨m,n,i⟩:=Zg h;unfold lastOf;rw[AC i];unfold Cj at h
 split at h
 ·exact absurd rfl h
 ·rename_i g
  have d:Cj l=if(Az l 0).1=0\/(Az l 1).1≠0/\(Az l 1).1=(Az l 0).1 % 3+1 then 1 else 0:=by unfold Cj;rw[AO g]
  rw[Kr];by_cases b:(Az l 0).1=0
  ·have f:Kr l p0 1=⟨0,0,0,p0⟩:=by rw [Kr,AO (λa=>a.1 b)];rfl
   have j:(Az l 1).1≠0:=λe=>g (.inr ⟨b,e⟩);rw[f,AC ⟨j,.inl rfl⟩,d,AC (.inl b)]
  ·have f:Kr l p0 1=⟨0,(Az l 0).1,(Az l 0).2.1,(Az l 0).2.2⟩:=by rw [Kr,AC ⟨b,.inl rfl⟩]
   rw[f];by_cases a:(Az l 1).1≠0/\(Az l 1).1=(Az l 0).1 % 3+1
   ·rw[AC ⟨a.1,.inr a.2⟩,d,AC (.inr a)]
   ·rw[AO (λc=>c.2.elim b λk=>a ⟨c.1,k⟩),d,AO (λc=>c.elim b a)]
def IO1(w:World)(g gd:Nat)(a b c d:Value)(S:YY)(e:Ending)(w':World):Prop :=
 e = .returned (.bool (decide (0<S.nu)))/\Has w' g 181 (Ox gd a b c d S)/\Turn [some g] [some g] w w'
def KG1 (g gd p0:Nat) (q r t u:Value) (s:ByteArray) (w:World) (h:Has w g 181 (Ox gd q r t u ⟨0,0,0,p0⟩)) (N:s.size<=67108864) :
 Calls Tryz.prog 112 #[.pointer (some ⟨g,0,none⟩),.string s] w (IO1 w g gd q r t u (lastOf s.data.toList p0)):=by
 by_cases i:s.data.toList.take 16=Jb
 ·have v:16<=s.size:=by
   have:(s.data.toList.take 16).length=16:=by rw[i];rfl
   rw[CU,JX]at this;have e:s.data.size=s.size:=rfl;omega
  have y:s.extract 0 16=⟨#[114,101,108,115,116,111,114,101,32,108,111,103,32,48,48,49]⟩:=by
   rw[Ot];show bsOf (Bc _ 0 16)=_;rw[Gn,i];rfl
  have E:=Ac (show lastOf s.data.toList p0=Kr s.data.toList p0 2 from AC i);have Y:=Ac N;rw[E.out];have m:=Ac h
  have D:¬((s.size:Int)<16):=by omega
  clear h i E N;have O:=Ac (λ(k:Nat) (P:k<2) w1=>BG1 s k P Y w1);go_enter Tryz.func112,Tryz.ntmps112;generalize (⟨#[114,101,108,115,116,111,114,101,32,108,111,103,32,48,48,49]⟩:ByteArray)=F at *
  go_wp2_with fail
  go_loopw [18] (λB wr=>∃ k:Nat,k<=2/\B = .int .i64 k/\Has wr g 181 (Ox gd q r t u (Kr s.data.toList p0 k))/\Turn [some g] [some g] w wr) (λB _=>2-(intOf B).toNat)
  case atStart=>exact⟨0,by omega,rfl,m,Turn.refl _ _⟩
  case round =>
   obtain⟨k,P,rfl,Q,R⟩:=hrel;have o:=Ac Q;have T:=Ac R;clear Q R m D y v;by_cases X:k<2
   ·have Z:=Ac (O k X)
    obtain⟨S,G⟩:∃ S,Kr s.data.toList p0 k=S:=⟨_,rfl⟩
    have c:=Ac (show Kr s.data.toList p0 (k+1)=if(Az s.data.toList k).1≠0/\(S.nu=0\/(Az s.data.toList k).1=S.nu % 3+1)then⟨k,(Az s.data.toList k).1,(Az s.data.toList k).2.1,(Az s.data.toList k).2.2⟩else S by rw[Kr,G]);rw[G]at o;clear O G
    go_upto_region 7 with(go_at_call 183;(with_reducible refine(Z.out _).mono ?_);rintro e w1 ⟨n,f,p,b,rfl,j,H⟩;have l:=Ac j;have d:=Ac (o.Ai H);have C:=Ac (T.trans (Turn.below _ H));clear j H)
    have I:w1.cell? ⟨g,8,none⟩=some (.int .i64 S.nu):=d.cell 8;have x7:w1.cell? ⟨g,7,none⟩=some (.int .i64 S.sl):=d.cell 7;have x4:w1.cell? ⟨g,4,none⟩=some (.int .i64 S.f):=d.cell 4;have x5:w1.cell? ⟨g,5,none⟩=some (.int .i64 S.p):=d.cell 5;have xz:=d.lt;have xf:=d.frozen
    cases b with
    | false =>
      have E1:=Ac (show Kr s.data.toList p0 (k+1)=S by
       have a:=l.1;rw[c.out,AO];intro J
       exact absurd a.symm (by rw[EW J.1];decide))
      clear l c
      go_wp2_with fail
      go_roundw
      case rel=>exact⟨k+1,by omega,by simp,by rw[E1.out];exact d,C⟩
      case measure=>simp[intOf];omega
    | true =>
      have j:=l.2 rfl
      have M:n≠0:=by
       have a:=l.1;rw[j]at a;exact PQ a.symm
      rw[j]at c;simp only at c;have K:=Ac (show Has ((((w1.setCell ⟨g,7,none⟩ (.int .i64 k)).setCell ⟨g,8,none⟩ (.int .i64 n)).setCell ⟨g,4,none⟩ (.int .i64 f)).setCell ⟨g,5,none⟩ (.int .i64 p)) g 181 (Ox gd q r t u ⟨k,n,f,p⟩)from(((d.set 7 _).set 8 _).set 4 _).set 5 _);have L:=Ac (C.trans ((((Turn.cell g 7 (.int .i64 k) w1).trans (Turn.cell g 8 (.int .i64 n) _)).trans (Turn.cell g 4 (.int .i64 f) _)).trans (Turn.cell g 5 (.int .i64 p) _)));have U:=Ac M;clear l j M;by_cases a:S.nu=0
      ·have E1:=Ac (show Kr s.data.toList p0 (k+1)=⟨k,n,f,p⟩ by rw [c.out,AC ⟨U.out,.inl a⟩])
       have V:(S.nu:Int)=0:=by omega
       rw[V]at I;clear c a
       go_wp2_with fail
       go_roundw
       case rel=>exact⟨k+1,by omega,by simp,by rw[E1.out];exact K,L⟩
       case measure=>simp[intOf];omega
      ·have V:((S.nu:Int) == 0)=false:=by simp;exact a
       by_cases z:n=S.nu % 3+1
       ·have E1:=Ac (show Kr s.data.toList p0 (k+1)=⟨k,n,f,p⟩ by rw [c.out,AC ⟨U.out,.inr z⟩]);have T1:=Ac (show(n:Int)=(S.nu:Int) % 3+1 by omega)
        have t2:((n:Int) == (S.nu:Int) % 3+1)=true:=by simp;omega
        clear c a z
        go_wp2_with fail
        go_roundw
        case rel =>
         have q1:=K.out;have q2:=L.out;exact⟨k+1,by omega,by simp,by rw[E1.out];exact q1,q2⟩
        case measure=>simp[intOf];omega
       ·have E1:=Ac (show Kr s.data.toList p0 (k+1)=S by rw [c.out,AO (λJ=>J.2.elim a z)])
        have t2:((n:Int) == (S.nu:Int) % 3+1)=false:=by rw[FK];omega
        clear c a z
        go_wp2_with fail
        go_roundw
        case rel=>exact⟨k+1,by omega,by simp,by rw[E1.out];exact d,C⟩
        case measure=>simp[intOf];omega
   ·obtain rfl:k=2:=by omega
    have I:=o.cell 8;have xz:=o.lt;simp only[Ox]at I
    go_wp2_with fail
    go_ret;exact⟨rfl,o,T⟩
 ·have E:=Ac (show lastOf s.data.toList p0=⟨0,0,0,p0⟩ from AO i);rw[E.out];have m:=Ac h;by_cases v:s.size<16
  ·have D:(s.size:Int)<16:=by omega
   clear h i v;go_enter Tryz.func112,Tryz.ntmps112;generalize (⟨#[114,101,108,115,116,111,114,101,32,108,111,103,32,48,48,49]⟩:ByteArray)=F at *
   go_wp2_with fail
   go_ret;exact⟨rfl,m,Turn.refl _ _⟩
  ·have D:¬ ((s.size:Int)<16):=by omega
   have y:s.extract 0 16≠⟨#[114,101,108,115,116,111,114,101,32,108,111,103,32,48,48,49]⟩:=λe=>i (by
    rw[Ot]at e;have A:=D8 (λx:ByteArray=>x.data.toList) e;simp only at A;rw[Gf]at A;have W:Bc s.data.toList 0 16=Jb:=A
    rw[Gn]at W;exact W)
   have aa:16<=s.size:=by omega
   clear h i v;go_enter Tryz.func112,Tryz.ntmps112;generalize (⟨#[114,101,108,115,116,111,114,101,32,108,111,103,32,48,48,49]⟩:ByteArray)=F at *
   have A:((s.extract 0 16).toList == F.toList)=false:=by
    rw[FK];intro e;rw[EL,EL]at e;exact y (ByteArray.ext (Array.toList_inj.1 e))
   clear y
   go_wp2_with fail
   go_ret;exact⟨rfl,m,Turn.refl _ _⟩
theorem ZD0(w:World):(Instr.makeMap 104 none).run Tryz.prog w = .ok (.map (some w.heap.size)) (w.alloc (.map #[] 0)):=rfl
def FF1(gd m2 kf kp sl nu:Nat):Array Value:=#[.pointer (some ⟨gd,0,none⟩),.int .i64 0,.int .i64 0,.map none,.int .i64 kf,.int .i64 kp,.map (some m2),.int .i64 sl,.int .i64 nu]
structure Half (w:World) (b:List (Option Nat)) (gd g m2:Nat) (D:Dk) (kf kp sl nu n:Nat) (f2:Int->Nat):Prop where
 disk:DP w b gd D
 has:Has w g 181 (FF1 gd m2 kf kp sl nu)
 map2:MP w m2 n f2
 offg:some g∉b
 offm:some m2∉b
section
variable {w w':World} {b b':List (Option Nat)} {gd g m2 kf kp sl nu n:Nat} {D D':Dk} {f2:Int->Nat}
def Half.below(h:Half w b gd g m2 D kf kp sl nu n f2)(a:Below w.heap.size w w'):Half w' b gd g m2 D kf kp sl nu n f2 :=
 ⟨h.disk.below a,h.has.Ai a,h.map2.below a,h.offg,h.offm⟩
def Half.ne(h:Half w b gd g m2 D kf kp sl nu n f2):g≠m2:=fE h.has h.map2
def Half.put(h:Half w b gd g m2 D kf kp sl nu n f2){a:Nat}{f':Int->Nat}(d:MP w' m2 a f')(c:w.grownBy w' (some m2)):Half w' b gd g m2 D kf kp sl nu a f':=by
 have f:=Turn.grown c;refine⟨h.disk.turn f λk i j=>?_,h.has.grown c (λe=>h.ne (CV e)),d,h.offg,h.offm⟩
 have:k=m2:=by simpa using i
 subst this;exact h.offm j
def Half.lt(h:Half w b gd g m2 D kf kp sl nu n f2){k:Nat}(c:some k∈b++[some g,some m2]):k<w.heap.size:=by
 rcases BO.1 c with a | a
 ·exact h.disk.lt a
 ·simp at a
  rcases a with rfl | rfl
  ·exact h.has.lt
  ·exact h.map2.lt
def Half.log {w0:World} {c:List (Option Nat)} {m:Nat} (h:Half w b gd g m2 D kf kp sl nu kf f2) (p:Turn c (b++[some g,some m2]) w0 w) (q:MP w m kf f2) (f:some m∉b++[some g,some m2]) (l:w0.heap.size<=m) :
 LR (((w.setCell ⟨g,1,none⟩ (.int .i64 kf)).setCell ⟨g,2,none⟩ (.int .i64 kp)).setCell ⟨g,3,none⟩ (.map (some m))) b gd g m m2 ⟨D,kf,kp,f2,kf,kp,f2,sl,nu⟩ /\
 Turn c (b++lb g m m2) w0 (((w.setCell ⟨g,1,none⟩ (.int .i64 kf)).setCell ⟨g,2,none⟩ (.int .i64 kp)).setCell ⟨g,3,none⟩ (.map (some m))):=by
 have e:Turn [some g] [some g] w (((w.setCell ⟨g,1,none⟩ (.int .i64 kf)).setCell ⟨g,2,none⟩ (.int .i64 kp)).setCell ⟨g,3,none⟩ (.map (some m))):=((Turn.cell g 1 _ w).trans (Turn.cell g 2 _ _)).trans (Turn.cell g 3 _ _);have i:some g∈b++[some g,some m2]:=BC _ (by simp)
 have n:m≠g:=by rintro rfl;exact f i
 have o:m≠m2:=by rintro rfl;exact f (BC _ (by simp))
 refine⟨⟨h.disk.turn e λk a d=>?_,((h.has.set 1 _).set 2 _).set 3 _,q.turn e λj=>n (by simpa using j),h.map2.turn e λj=>h.ne (by simpa using j:m2=g).symm,o,λk a d=>?_⟩, ?_⟩
 ·have:k=g:=by simpa using a
  subst this;exact h.offg d
 ·rcases Ht.1 d with rfl | rfl | rfl
  ·exact h.offg a
  ·exact f (BL _ a)
  ·exact h.offm a
 ·refine p.trans' e (λk a=>?_) (λk a=>?_)
  ·have:k=g:=by simpa using a
   subst this;exact i
  ·rcases BO.1 a with d | d
   ·exact .inl (BL _ d)
   ·rcases Ht.1 d with rfl | rfl | rfl
    ·exact .inl i
    ·exact .inr l
    ·exact .inl (BC _ (by simp))
end
def KM1(w:World)(b:List (Option Nat))(gd:Nat)(R:Rw)(e:Ending)(w':World):Prop :=
 ∃ g b' m1 m2,e = .returned (.tuple #[.pointer (some ⟨g,0,none⟩),.int .i64 0])/\LR w' b' gd g m1 m2 R/\Turn b (b'++lb g m1 m2) w w'
def SK0{l:List UInt8}{s:ByteArray}(a:bsOf l=s)(k:Nat):((Oy l k).n:Nat)=DC ((s.extract (64+1028*k) s.size).data.toList.take 4):=by
 rw[<- a,Ot,Gf,Gf,Df];show DC (Bc l (64+1028*k) 4)=DC ((Bc l (64+1028*k) (l.length-(64+1028*k))).take 4)
 congr 1
 unfold Bc;rw[MF];by_cases h:4<=l.length-(64+1028*k)
 ·rw[MC h]
 ·rw[EE (by rw[DJ];omega),EE (by rw[DJ];omega)]
def AK1 (b:List (Option Nat)) (gd p0:Nat) (D:Dk) (w:World) (h:DP w b gd D) :
 Half ((w.alloc (.map #[] 0)).alloc (.cells #[.pointer (some ⟨gd,0,none⟩),.int .i64 0,.int .i64 0,.map none,.int .i64 0,.int .i64 p0,.map (some w.heap.size),.int .i64 0,.int .i64 0] 181)) b gd (w.heap.size+1) w.heap.size D 0 p0 0 0 0 (λ_=>0) /\
 Below w.heap.size w ((w.alloc (.map #[] 0)).alloc (.cells #[.pointer (some ⟨gd,0,none⟩),.int .i64 0,.int .i64 0,.map none,.int .i64 0,.int .i64 p0,.map (some w.heap.size),.int .i64 0,.int .i64 0] 181)):=by
 have e:Below w.heap.size w (w.alloc (.map #[] 0)):=(AU _ _).alloc (AY _) _;have c:Below w.heap.size w ((w.alloc (.map #[] 0)).alloc (.cells #[.pointer (some ⟨gd,0,none⟩),.int .i64 0,.int .i64 0,.map none,.int .i64 0,.int .i64 p0,.map (some w.heap.size),.int .i64 0,.int .i64 0] 181)):=e.alloc (by simp) _;have d:=Has.new (w.alloc (.map #[] 0)) 181 #[.pointer (some ⟨gd,0,none⟩),.int .i64 0,.int .i64 0,.map none,.int .i64 0,.int .i64 p0,.map (some w.heap.size),.int .i64 0,.int .i64 0];rw[ED]at d;exact⟨⟨h.below c,d,(MP.made w).below ((AU _ _).alloc (AY _) _),λa=>by have:=h.lt a;omega,λa=>by have:=h.lt a;omega⟩,c⟩
def wO{B:Nat}{w W j:World}{b l:List (Option Nat)}{g m2:Nat}(m:w.heap.size=B)(a:Below B w W)(d:Turn (b++[some g]) (l++[some g]) W j)(o:w.heap.size<=g)(p:w.heap.size<=m2):Turn b (l++[some g,some m2]) w j:=by
 subst m;refine⟨d.os.trans a.os,d.tape.trans a.tape,d.output.trans a.output,BN a.size d.size,λk e n=>(d.block k (DD e a.size) (λh=>?_)).trans (a.block k e),λk e=>?_⟩
 ·rcases BO.1 h with c | c
  ·exact n c
  ·have:k=g:=by simpa using c
   omega
 ·rcases BO.1 e with c | c
  ·rcases d.new k (BL _ c) with f | f
   ·rcases BO.1 f with i | i
    ·exact .inl i
    ·have:k=g:=by simpa using i
     exact .inr (by omega)
   ·exact .inr (BN a.size f)
  ·have:k=g\/k=m2:=by simpa using c
   exact .inr (by omega)
def UZ0{fs:List Fr}{k:Nat}(g:k<fs.length){f:Fr}(a:fs[k]? = some f)(x:Int)(b:(f.n:Int)=x):(λy=>if y=x then k+1 else Aw (fs.take k) y)=λy=>Aw (fs.take (k+1)) y:=by
 funext y
 obtain⟨c,d⟩:=C9.1 a;rw[JS c,d,Ri,b,CU,MC (by omega)];by_cases h:y=x
 ·rw[AC h,AC h.symm]
 ·rw[AO h,AO (λe=>h e.symm)]
def BC1{D:Dk}(c:D.ok){f:Nat}(d:f<2)(a:D.down=false):D.Fa f 0 (D.seen f).length=bsOf (D.seen f)/\D.Dy f 0 (D.seen f).length=0:=by
 have e:=c.seen f
 have b:Jr f 0 (D.seen f).length:=by unfold Jr;omega
 refine⟨(AC ⟨b,a,by simp⟩).trans (by simp), ?_⟩;unfold Dk.Dy;rw[AC b,AO (by rw[a];decide),AC (by simp)]
def FP1 (b:List (Option Nat)) (gd:Nat) (D:Dk) (w:World) (h:DP w b gd D) (A:Fit D 4) (P:D.down=false) (hc:Cj (D.seen 1)=2->D.calm) :
 Calls Tryz.prog 38 #[.pointer (some ⟨gd,0,none⟩)] w (KM1 w b gd (Lg.opened D).rw):=by
 have s0:D.Zo 0=((D.seen 0).length:Int)/\D.Vl 0=0:=⟨AC ⟨by omega,by omega,P⟩,(AC (by omega)).trans (AO (by rw[P];decide))⟩
 have s1:D.Zo 1=((D.seen 1).length:Int)/\D.Vl 1=0:=⟨AC ⟨by omega,by omega,P⟩,(AC (by omega)).trans (AO (by rw[P];decide))⟩
 have s2:=BC1 A.ok (f:=1) (by omega) P;have T0:=Ac (jE gd D b 0 w h A.ok);have T1:=Ac (jE gd D b 1 w h A.ok);have T:=Ac (jZ gd D b 1 0 (D.seen 1).length w h A.ok);rw[s0.1,s0.2]at T0;rw[s1.1,s1.2]at T1;rw[show((1:Nat):Int)=1 from rfl]at s2
 rw[s2.1,s2.2]at T;have l0:=A.ok.seen 0;have l1:=A.ok.seen 1;have OP:=Ac (AK1 b gd ((D.seen 0).length / 1024) D w h);obtain⟨n0,ag⟩:∃ n,(D.seen 0).length=n:=⟨_,rfl⟩;obtain⟨l,hl⟩:∃ l,D.seen 1=l:=⟨_,rfl⟩;obtain⟨s,U⟩:∃ s,bsOf l=s:=⟨_,rfl⟩
 have hz:s.size=l.length:=by rw[<- U,Df]
 have d:s.data.toList=l:=by rw[<- U,Gf]
 rw[hl]at T1 T l1;rw[U]at T;rw[ag]at T0 l0 OP;rw[<- hz]at T1 T l1;have V:=Ac (λ(p0:Nat) w1 (y:Has w1 (w.heap.size+1) 181 (Ox gd (.int .i64 0) (.int .i64 0) (.map none) (.map (some w.heap.size)) ⟨0,0,0,p0⟩))=>KG1 (w.heap.size+1) gd p0 _ _ _ _ s w1 y l1);rw[d]at V;have HS:=Ac U;have HL:=Ac hl;have N0:=Ac ag;have L1:=Ac l1;have HZ:=Ac hz;have HF:=Ac A;have HC:=Ac hc;have am:wrap64 ((n0:Int) / 1024)=((n0 / 1024:Nat):Int):=(YJ _ (by omega)).trans (by omega)
 have ay:=ZD0;obtain⟨p0,ah⟩:∃ p,n0 / 1024=p:=⟨_,rfl⟩
 have an:p0<=65536:=by omega
 rw[ah]at OP am;have P0:=Ac ah;have P1:=Ac an;clear s0 s1 s2 h A P hc ag hl U hz d l0 l1 ah an;go_enter Tryz.func38,Tryz.ntmps38
 go_upto_region 11 with(first |(go_at_call 94;(with_reducible refine T0.out.mono ?_);rintro e w1 ⟨rfl,rfl⟩) |(go_at_call 94;(with_reducible refine T1.out.mono ?_);rintro e w1 ⟨rfl,rfl⟩) |(go_at_call 95;(with_reducible refine T.out.mono ?_);rintro e w1 ⟨rfl,rfl⟩))
 obtain⟨g,X⟩:∃ g,w.heap.size+1=g:=⟨_,rfl⟩;obtain⟨m2,ai⟩:∃ g,w.heap.size=g:=⟨_,rfl⟩;obtain⟨W,hW⟩:∃ W,((w.alloc (.map #[] 0)).alloc (.cells #[.pointer (some ⟨gd,0,none⟩),.int .i64 0,.int .i64 0,.map none,.int .i64 0,.int .i64 p0,.map (some w.heap.size),.int .i64 0,.int .i64 0] 181))=W:=⟨_,rfl⟩;have a:=Ac OP.out;clear OP;rw[hW,X]at a;rw[X]at V;rw[hW,X];have aa:=Ac ai;have ao:=Ac X;clear hW X;rw[ai]at a V ⊢;clear ai;have J:=Ac (V p0 W a.1.has);clear V ay am;by_cases o:Cj l=2
 ·have Y:=TX0 (p0:=p0) o
  have az:=Ac o;rw[Y]at J;obtain⟨D',E⟩:∃ D',YT D p0 4=D':=⟨_,rfl⟩;obtain⟨kf,F⟩:∃ k:Nat,k=0:=⟨_,rfl⟩;obtain⟨kp,M⟩:∃ k:Nat,k=p0:=⟨_,rfl⟩;obtain⟨sl,N⟩:∃ k:Nat,k=0:=⟨_,rfl⟩;obtain⟨nu,G⟩:∃ k:Nat,k=1:=⟨_,rfl⟩;obtain⟨fs,H⟩:∃ f:List Fr,f=[]:=⟨_,rfl⟩
  have ER:=Ac (show(Lg.opened D).rw=⟨D',kf,kp,λx=>Aw (fs.take kf) x,kf,kp,λx=>Aw (fs.take kf) x,sl,nu⟩by
   have Q:Lg.opened D=⟨Ti D,[],0,(D.seen 0).length / 1024,0,1⟩:=AC (by rw[HL.out];exact o)
   have e2:Ti D=D':=by rw[<- E,<- P0.out,<- N0.out];rfl
   rw[Q,e2,N0.out,P0.out,F,M,N,G,H];rfl)
  have ab:=Ac (show kf<=100000 by omega);have BG:=Ac (λw1 (y:DP w1 b gd D) (h2:Has w1 g 181 (Ox gd (.int .i64 0) (.int .i64 0) (.map none) (.map (some m2)) ⟨0,0,0,p0⟩))=>DX1 b gd g p0 D _ _ _ _ _ _ _ w1 y h2 a.1.offg HF (HC (by rw[HL.out];exact az)) (by have:=P1.out;omega));rw[E]at BG;have K0:=Ac F;have K1:=Ac M;have K2:=Ac N;have K3:=Ac G;clear Y o E F M N G H
  go_wp2_with (first |(go_at_call 112;(with_reducible refine J.out.mono ?_);rintro e w1 ⟨rfl,u,d⟩;have O:=Ac u;have ap:=Ac d;clear u d) |(go_at_call 113;(refine(BG _ (a.1.disk.turn ap (λk K v=>a.1.offg ((show k=g by simpa using K) ▸ v))) O).mono ?_);rintro e w2 ⟨rfl,i,aq,ac,ar,au⟩;have Z:=Ac ((ap.right b).trans ar);have R:=Ac (show Half w2 i gd g m2 D' kf kp sl nu 0 (λx=>Aw (fs.take 0) x)from by rw[K0.out,K1.out,K2.out,K3.out];exact⟨aq,ac,a.1.map2.turn Z (λv=>(BO.1 v).elim a.1.offm (λB=>a.1.ne (show m2=g by simpa using B).symm)),au,λv=>(Z.new m2 (BL _ v)).elim (λh5=>(BO.1 h5).elim a.1.offm (λB=>a.1.ne (show m2=g by simpa using B).symm)) (λh5=>by have:=a.1.map2.lt;omega)⟩);have y4:w2.cell? ⟨g,4,none⟩=some (.int .i64 0):=ac.cell 4;have gz:=ac.lt;clear aq ac ar au))
  have HT:=Ac (wO (m2:=m2) aa a.2 Z (by have:=ao.out;omega) (by have:=aa.out;omega))
  go_loopw [56] (λI wr=>∃ k:Nat,k<=kf/\I = .int .i64 k/\Half wr i gd g m2 D' kf kp sl nu k (λx=>Aw (fs.take k) x)/\Turn b (i++[some g,some m2]) w wr) (λI _=>kf-(intOf I).toNat)
  case atStart=>exact⟨0,BR _,rfl,R,HT⟩
  case round =>
   obtain⟨k,K,rfl,u,d⟩:=hrel;have r:=Ac u;have ad:=Ac d;clear u d R HT;by_cases ae:k<kf
   ·exact absurd ae (by have:=K0.out;omega)
   ·have aj:k=kf:=by omega
    subst aj;have z:=Ac r.out;have y6:wr.cell? ⟨g,6,none⟩=some (.map (some m2)):=r.has.cell 6;have y5:wr.cell? ⟨g,5,none⟩=some (.int .i64 kp):=r.has.cell 5;have y4:wr.cell? ⟨g,4,none⟩=some (.int .i64 k):=r.has.cell 4;have gz:=r.has.lt;have CP:=Ac (λw1 (y:MP w1 m2 k (λx=>Aw (fs.take k) x))=>Ug m2 k kp k _ w1 (by have:=ab.out;omega) y)
    go_wp2_with ((go_at_call 115;refine(CP _ z.map2).mono ?_);rintro e C ⟨m,rfl,hm,S,L⟩;have HM:=Ac hm;have HW:=Ac S;have HB:=Ac L;have t:=(z.below L).has;have c1:C.cell? ⟨g,1,none⟩=some (.int .i64 0):=t.cell 1;have c2:C.cell? ⟨g,2,none⟩=some (.int .i64 0):=t.cell 2;have c3:C.cell? ⟨g,3,none⟩=some (.map none):=t.cell 3;have y1:=t.lt;have yf:=t.frozen;clear hm S L t)
    go_ret2;obtain⟨B,t4⟩:=(z.below HB).log (Turn.below _ HB) HM (λv=>by have:=z.lt v;have:=HW.out;omega) HW;refine⟨g,i,m,m2,rfl, ?_,ad.trans t4⟩;rw[ER.out];exact B
 ·have Y:=TL0 (p0:=p0) o
  rw[Y]at J;obtain⟨G1,G2,_⟩:=Zg o;obtain⟨G3,G4,G5⟩:=Zk G2;obtain⟨D',E⟩:∃ D',D=D':=⟨_,rfl⟩
  have Q:Lg.opened D=⟨D,Eh l (Az l (Cj l)).2.1,(Az l (Cj l)).2.1,(Az l (Cj l)).2.2,Cj l,(Az l (Cj l)).1⟩:=by
   rw[<- HL.out];exact AO (by rw[HL.out];exact o)
  obtain⟨kf,F⟩:∃ k:Nat,(Az l (Cj l)).2.1=k:=⟨_,rfl⟩;obtain⟨kp,M⟩:∃ k:Nat,(Az l (Cj l)).2.2=k:=⟨_,rfl⟩;obtain⟨nu,G⟩:∃ k:Nat,(Az l (Cj l)).1=k:=⟨_,rfl⟩;rw[F,M,G]at J Q;rw[G]at G2 G3;rw[F]at G4;obtain⟨sl,N⟩:∃ k:Nat,Cj l=k:=⟨_,rfl⟩;rw[N]at J Q;obtain⟨fs,H⟩:∃ f:List Fr,Eh l kf=f:=⟨_,rfl⟩
  have af:=Ac (show fs.length=kf by rw[<- H];exact Hl l kf);have a0:=Ac (show ∀ k<kf,64+1028*k+1028<=s.size from λk K=>by have:=HZ.out;omega)
  have a1:=Ac (show ∀ k<kf,fs[k]? = some (Oy l k)from λk K=>by
   have y:k<fs.length:=by have:=af.out;omega
   have h2:=DK y;rw[h2];have v:=Ku l kf k fs[k] (by rw[H];exact h2)
   rw[v.2])
  have ER:=Ac (show(Lg.opened D).rw=⟨D',kf,kp,λx=>Aw (fs.take kf) x,kf,kp,λx=>Aw (fs.take kf) x,sl,nu⟩by
   rw[Q,E,H];have y:fs.take kf=fs:=EE (by have:=af.out;omega)
   exact ZT rfl af rfl (λx=>by show Aw fs x=Aw (fs.take kf) x;rw[y]) rfl rfl (λx=>rfl) rfl rfl)
  have ab:=Ac (show kf<=100000 by have:=HZ.out;have:=L1.out;omega)
  have av:Calls Tryz.prog 112 #[.pointer (some ⟨g,0,none⟩),.string s] W (λe w'=>e = .returned (.bool true)/\Has w' g 181 (Ox gd (.int .i64 0) (.int .i64 0) (.map none) (.map (some m2)) ⟨sl,nu,kf,kp⟩)/\Turn [some g] [some g] W w'):=J.mono λe w' h=>⟨by rw[h.1];show _=Ending.returned (.bool true);rw[EW (show 0<nu by omega)],h.2⟩
  have a2:=Ac av;have OD:=Ac (show DP W b gd D' from E ▸ a.1.disk)
  clear J av Y o G1 G2 G3 G4 G5 E Q F M G N H;obtain⟨i,hb2⟩:∃ i,b=i:=⟨_,rfl⟩
  have OF:=Ac (show some g∉i/\some m2∉i from hb2 ▸ ⟨a.1.offg,a.1.offm⟩);rw[hb2]at OD;have BB:=Ac hb2
  go_wp2_with (go_at_call 112;(with_reducible refine a2.out.mono ?_);rintro e w1 ⟨rfl,u,d⟩;have Z:=Ac (d.right b);have R:=Ac (show Half w1 i gd g m2 D' kf kp sl nu 0 (λx=>Aw (fs.take 0) x)from⟨OD.turn d (λk K v=>OF.1 ((show k=g by simpa using K) ▸ v)),u,a.1.map2.turn d (λB=>a.1.ne (show m2=g by simpa using B).symm),OF.1,OF.2⟩);have y4:w1.cell? ⟨g,4,none⟩=some (.int .i64 kf):=u.cell 4;have gz:=u.lt;clear u d)
  have HT:=Ac (show Turn b (i++[some g,some m2]) w w1 from hb2 ▸ wO (m2:=m2) aa.out a.2 Z.out (by have:=ao.out;omega) (by have:=aa.out;omega));clear hb2
  go_loopw [56] (λI wr=>∃ k:Nat,k<=kf/\I = .int .i64 k/\Half wr i gd g m2 D' kf kp sl nu k (λx=>Aw (fs.take k) x)/\Turn b (i++[some g,some m2]) w wr) (λI _=>kf-(intOf I).toNat)
  case atStart=>exact⟨0,BR _,rfl,R,HT⟩
  case round =>
   obtain⟨k,K,rfl,u,d⟩:=hrel;have r:=Ac u;have ad:=Ac d;clear u d R HT;by_cases ae:k<kf
   ·have a6:(k:Int)<(kf:Int):=by omega
    have a3:=a0 k ae;have hf:=a1 k ae;have NU:=Ac (Yf (s.extract (64+1028*k) s.size) (by rw[TJ];omega))
    rw[<- SK0 HS.out k]at NU;obtain⟨x,o⟩:∃ x,(Oy l k).n=x:=⟨_,rfl⟩
    have a7:x<4294967296:=by rw[<- o];exact RZ 4 _ (by rw[Gy];have:=HZ.out;omega)
    rw[o]at NU;have HX:=Ac o;have WX:=Ac (KU (x:=(x:Int)) (by omega) (by omega));have z:=Ac (r.below (AU _ _).drew);have y6:wr.cell? ⟨g,6,none⟩=some (.map (some m2)):=r.has.cell 6;have gz:=r.has.lt
    have kb:k<=100000:=by have:=ab.out;omega
    have q1:(64:Int)+(k:Int)*1028<=(s.size:Int):=by omega
    have q2:IntKind.i64.wrap (64+IntKind.i64.wrap ((k:Int)*1028))=((64+1028*k:Nat):Int):=by
     rw[JL ((k:Int)*1028) (by omega),JL (64+(k:Int)*1028) (by omega)];omega
    have TD:=Ac (ad.trans (Turn.below _ (AU wr.heap.size wr).drew));have LT:=Ac (UZ0 (fs:=fs) (k:=k) (by have:=af.out;omega) hf (x:Int) (by rw[<- o]));clear o hf a3
    go_upto_region 18 with fail
    go_region_with ((go_at_call 114;(refine(NU _).mono ?_);rintro e w1 ⟨rfl,ak⟩;have O:=Ac (z.below ak);have a8:w1.cell? ⟨g,6,none⟩=some (.map (some m2)):=O.has.cell 6;have a9:=O.has.lt;obtain⟨C,ax,aw,al⟩:=O.map2.put (by omega) (x:Int) (k+1) WX (by omega);rw[show((k+1:Nat):Int)=(k:Int)+1 from rfl]at ax;have a4:=Ac (O.put aw al);have a5:=Ac ((TD.trans (Turn.below _ ak)).trans ((Turn.grown al).wide (c:=i++[some g,some m2]) (c':=i++[some g,some m2]) (λj hj=>BC _ (by rw[show j=m2 by simpa using hj];simp)) (λj hj=>.inr hj)));clear aw al ak))
    all_goals
     go_wp2_with fail
     go_roundw
     case rel=>exact⟨k+1,by omega,by simp,by have q:=a4.out;rw[LT.out]at q;exact q,a5⟩
     case measure=>simp[intOf];omega
   ·have aj:k=kf:=by omega
    subst aj;have z:=Ac r.out;have y6:wr.cell? ⟨g,6,none⟩=some (.map (some m2)):=r.has.cell 6;have y5:wr.cell? ⟨g,5,none⟩=some (.int .i64 kp):=r.has.cell 5;have y4:wr.cell? ⟨g,4,none⟩=some (.int .i64 k):=r.has.cell 4;have gz:=r.has.lt;have CP:=Ac (λw1 (y:MP w1 m2 k (λx=>Aw (fs.take k) x))=>Ug m2 k kp k _ w1 (by have:=ab.out;omega) y)
    go_wp2_with ((go_at_call 115;refine(CP _ z.map2).mono ?_);rintro e C ⟨m,rfl,hm,S,L⟩;have HM:=Ac hm;have HW:=Ac S;have HB:=Ac L;have t:=(z.below L).has;have c1:C.cell? ⟨g,1,none⟩=some (.int .i64 0):=t.cell 1;have c2:C.cell? ⟨g,2,none⟩=some (.int .i64 0):=t.cell 2;have c3:C.cell? ⟨g,3,none⟩=some (.map none):=t.cell 3;have y1:=t.lt;have yf:=t.frozen;clear hm S L t)
    go_ret2;obtain⟨B,t4⟩:=(z.below HB).log (Turn.below _ HB) HM (λv=>by have:=z.lt v;have:=HW.out;omega) HW;refine⟨g,i,m,m2,rfl, ?_,ad.trans t4⟩;rw[ER.out];exact B
end Go.Proofs.YtjihboddejaelaaGreat
namespace Go.Proofs.YtjihboddejaelaaGreat
open Go.RowKit Go.BigFrame
def Yi:ByteArray:=Dj 4 0 []
def Pl.begun(D:Dk):Lg:=if(Lg.opened D).pages=0 then(Lg.opened D).Bi 0 Yi 1 else Lg.opened D
def Pl.opened(D:Dk)(most:Nat):Pl×Int:=Pl.Qp (Pl.begun D) most
def BH1(w:World)(b:List (Option Nat))(gd:Nat)(P:Pl)(E:Int)(a:Ending)(w':World):Prop :=
 ∃ b' g m1 m2 p e h t,a = .returned (.tuple #[Cc p,.int .i64 E])/\PM w' b' gd g m1 m2 p e h t [] P/\Turn b (allB b' g m1 m2 p e h t []) w w'
def sH {b:List (Option Nat)} {gd g m1 m2:Nat} {L:Lg} {w:World} (h:LR w b gd g m1 m2 L.rw) (ok:L.ok) (a:Fit L.D 4) (n:Int) (s:ByteArray) (p:Int) :
 Calls Tryz.prog 40 #[Cc g,.int .i64 n,.string s,.int .i64 p] w (XJ w b gd g m1 m2 (L.Bi n s p).rw (.int .i64 (L.Ez n s p))):=by
 obtain⟨c,d⟩:=GC1 ok n s p;rw[c,d];exact YJ0 b gd g m1 m2 L.rw n s p w h a ok.slot ok.number (show L.fs.length<=_ by have:=ok.len;omega)
def CI1 (b:List (Option Nat)) (gd:Nat) (D:Dk) (most:Nat) (h8:8<=most) (ae:most<=64) (w:World) (H:DP w b gd D) (O:Fit D 8) (U:D.down=false) (V:Cj (D.seen 1)=2->D.calm) (ok:(Lg.opened D).ok) (N:Fit (Lg.opened D).D 4)
 (W:(Lg.opened D).pages=0->(Lg.opened D).Ez 0 Yi 1=0) :
 Calls Tryz.prog 7 #[.pointer (some ⟨gd,0,none⟩),.int .i64 most] w (BH1 w b gd (Pl.opened D most).1 (Pl.opened D most).2):=by
 have C:=Ac (FP1 b gd D w H (O.less (by omega)) U V);have m:Hid (Pl.begun D=if(Lg.opened D).pages=0 then(Lg.opened D).Bi 0 Yi 1 else Lg.opened D):=rfl;have v:Hid (Pl.opened D most=Pl.Qp (Pl.begun D) most):=rfl;have n:=Ac ok;have u:=Ac N;have x:=Ac W;obtain⟨L,X⟩:∃ L,Lg.opened D=L:=⟨_,rfl⟩;rw[X]at C m n u x;clear H O U V ok N W X
 have i8:¬(most:Int)<8:=by omega
 have af:¬(64:Int)<most:=by omega
 by_cases j:L.pages=0
 ·have k:=Ac (m.trans (AC j));have Y:=x j;have y:=Ac (λc g d n2 w1 (i:LR w1 c gd g d n2 L.rw)=>sH i n u 0 Yi 1);rw[Y]at y;have P:=Ac (aS n 0 Yi 1);have Z:Hid (∀ w,Calls Tryz.prog 41 #[.int .i64 0,.slice none 0 0] w λe w'=>e = .returned (.string Yi)/\Below w.heap.size w w'):=λw=>rX 0 none 0 0 [] w (SS.nil w) (by decide)
  have E:Hid (∀ c g d n2 w1,LR w1 c gd g d n2 L.rw->Calls Tryz.prog 39 #[Cc g] w1 λe w'=>e = .returned (.int .i64 0)/\w1=w'):=λc g d n2 w1 i=>by
   have:=aZ c gd g d n2 L.rw w1 i;rw[show(L.rw.kp:Nat)=0 from j]at this;exact this
  obtain⟨M,hM⟩:∃ M,L.Bi 0 Yi 1=M:=⟨_,rfl⟩;obtain⟨S,hS⟩:∃ S,Yi=S:=⟨_,rfl⟩;rw[hM]at k y P;rw[hS]at y Z
  have o:Hid (∀ c g d n2 w1,LR w1 c gd g d n2 M.rw->Calls Tryz.prog 42 #[Cc w1.heap.size] (w1.alloc (.cells #[Cc g,.int .i64 most,.pointer none,.map none,.int .i64 0,.int .i64 0,.map none,.int .i64 0,.int .i64 0,.int .i64 0] 106))
   (λf w'=>f = .returned (.int .i64 (Pl.Qp M most).2)/\∃ e h t,PM w' c gd g d n2 w1.heap.size e h t [] (Pl.Qp M most).1/\Turn (c++lb g d n2) (allB c g d n2 w1.heap.size e h t []) w1 w')):=λc g d n2 w1 i=>by
   have p:Below w1.heap.size w1 (w1.alloc (.cells #[Cc g,.int .i64 most,.pointer none,.map none,.int .i64 0,.int .i64 0,.map none,.int .i64 0,.int .i64 0,.int .i64 0] 106)):=(AU _ _).alloc (AY _) _;refine(GD0 c gd g d n2 w1.heap.size M most _ (i.below p) P (Has.new w1 106 #[Cc g,.int .i64 most,.pointer none,.map none,.int .i64 0,.int .i64 0,.map none,.int .i64 0,.int .i64 0,.int .i64 0]) (λF=>by have:=i.lt F;omega)).mono ?_;rintro f w' ⟨G,e,h,t,I,J⟩;exact⟨G,e,h,t,I,(Z7 p (a:=w1.heap.size) (AY _)).trans J⟩
  rw[v.out,k.out];obtain⟨Q,q⟩:∃ Q,Pl.Qp M most=Q:=⟨_,rfl⟩;rw[q]at o ⊢;clear Y hM hS q m v j x k u n;go_enter Tryz.func7,Tryz.ntmps7
  go_wp2_with (first
   |(go_at_call 38;refine C.mono ?_;rintro f w1 ⟨g,c,d,n2,rfl,l,r⟩;have s:=Ac l;have K:=Ac r;clear l r)
   |(go_at_call 39;refine(E _ _ _ _ _ s).mono ?_;rintro f w2 ⟨rfl,rfl⟩)
   |(go_at_call 41;refine(Z _).mono ?_;rintro f w3 ⟨rfl,z⟩;have aa:=Ac (s.below z);have ab:=Ac (K.trans (Turn.below _ z));clear z)
   |(go_at_call 40;refine(y _ _ _ _ _ aa).mono ?_;rintro f w4 ⟨rfl,b4,n3,n4,R,T⟩;have ac:=Ac R;have ad:=Ac (ab.trans T);clear R T)
   |(go_at_call 42;refine(o _ _ _ _ _ ac).mono ?_;rintro f w5 ⟨rfl,e,h,t,A,B⟩))
  go_ret2;exact⟨b4,g,n3,n4,_,e,h,t,rfl,A,ad.trans B⟩
 ·have k:=Ac (m.trans (AO j))
  have e0:((L.pages:Int) == 0)=false:=by rw[FK];omega
  have E:Hid (∀ c g d n2 w1,LR w1 c gd g d n2 L.rw->Calls Tryz.prog 39 #[Cc g] w1 λe w'=>e = .returned (.int .i64 L.pages)/\w1=w'):=λc g d n2 w1 i=>aZ c gd g d n2 L.rw w1 i
  have o:Hid (∀ c g d n2 w1,LR w1 c gd g d n2 L.rw->Calls Tryz.prog 42 #[Cc w1.heap.size] (w1.alloc (.cells #[Cc g,.int .i64 most,.pointer none,.map none,.int .i64 0,.int .i64 0,.map none,.int .i64 0,.int .i64 0,.int .i64 0] 106))
   (λf w'=>f = .returned (.int .i64 (Pl.Qp L most).2)/\∃ e h t,PM w' c gd g d n2 w1.heap.size e h t [] (Pl.Qp L most).1/\Turn (c++lb g d n2) (allB c g d n2 w1.heap.size e h t []) w1 w')):=λc g d n2 w1 i=>by
   have p:Below w1.heap.size w1 (w1.alloc (.cells #[Cc g,.int .i64 most,.pointer none,.map none,.int .i64 0,.int .i64 0,.map none,.int .i64 0,.int .i64 0,.int .i64 0] 106)):=(AU _ _).alloc (AY _) _;refine(GD0 c gd g d n2 w1.heap.size L most _ (i.below p) n (Has.new w1 106 #[Cc g,.int .i64 most,.pointer none,.map none,.int .i64 0,.int .i64 0,.map none,.int .i64 0,.int .i64 0,.int .i64 0]) (λF=>by have:=i.lt F;omega)).mono ?_;rintro f w' ⟨G,e,h,t,I,J⟩;exact⟨G,e,h,t,I,(Z7 p (a:=w1.heap.size) (AY _)).trans J⟩
  rw[v.out,k.out];obtain⟨Q,q⟩:∃ Q,Pl.Qp L most=Q:=⟨_,rfl⟩;rw[q]at o ⊢;clear q m v j x k u;go_enter Tryz.func7,Tryz.ntmps7
  go_wp2_with (first
   |(go_at_call 38;refine C.mono ?_;rintro f w1 ⟨g,c,d,n2,rfl,l,r⟩;have s:=Ac l;have K:=Ac r;clear l r)
   |(go_at_call 39;refine(E _ _ _ _ _ s).mono ?_;rintro f w2 ⟨rfl,rfl⟩)
   |(go_at_call 42;refine(o _ _ _ _ _ s).mono ?_;rintro f w5 ⟨rfl,e,h,t,A,B⟩))
  go_ret2;exact⟨c,g,d,n2,_,e,h,t,rfl,A,K.trans B⟩
end Go.Proofs.YtjihboddejaelaaGreat
