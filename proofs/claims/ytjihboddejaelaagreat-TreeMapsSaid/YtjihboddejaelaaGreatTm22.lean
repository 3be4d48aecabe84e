/-
  The law TreeMaps: two trees, two maps, two kept maps, in memory and in plain Lean.
-/
import Derived.Test.YtjihboddejaelaaGreatTm1
import Derived.Test.YtjihboddejaelaaGreatTm21
import Derived.Test.YtjihboddejaelaaGreatTm4
import Derived.Deep.CutBlock
import Derived.Test.YtjihboddejaelaaGreatTm19
set_option linter.unusedVariables false
set_option linter.unusedSimpArgs false
set_option linter.defProp false
set_option maxRecDepth 100000
set_option maxHeartbeats 100000000
namespace Go.Proofs.YtjihboddejaelaaGreat
open Go.RowKit Go.BigFrame
def upd{α:Type}(f:Nat->α)(k:Nat)(x:α):Nat->α:=λj=>if j=k then x else f j
def Iq{α:Type}{f:Nat->α}{k:Nat}{x:α}:upd f k x k=x:=AC rfl
def upd_ne{α:Type}{f:Nat->α}{k j:Nat}{x:α}(h:j≠k):upd f k x j=f j:=AO h
structure DV (wr:List Nat) (X X':List (Option Nat)) (w w':World):Prop where
 os:w'.os=w.os
 tape:w'.tape=w.tape
 output:w'.output=w.output
 size:w.heap.size<=w'.heap.size
 blk:∀ g,g<w.heap.size->some g∉X->g∉wr->w'.heap[g]? = w.heap[g]?
 nx:∀ g,some g∈X'->some g∈X\/w.heap.size<=g
section
variable {w w' w0 w2:World} {X X' X2:List (Option Nat)} {wr:List Nat}
def DV.out(s:DV wr X X' w w'){g:Nat}(b:g<w.heap.size)(a:some g∉X):some g∉X':=λh=>by
 rcases s.nx g h with h | h
 ·exact a h
 ·omega
def DV.turn(a:Turn X X' w w'):DV [] X X' w w':=⟨a.os,a.tape,a.output,a.size,λg b c _=>a.block g b c,a.new⟩
def DV.below(a:Below w.heap.size w w'):DV [] X X w w':=.turn (Turn.below X a)
def DV.vS{m:Nat}(a:Turn (some m :: X) (some m :: X') w w')(c:some m∉X'):DV [m] X X' w w' :=
 ⟨a.os,a.tape,a.output,a.size,λg d f i=>a.block g d λh=>by
   rcases BI.1 h with e | h
   ·exact i (by rw[CV e];exact BH.2 rfl)
   ·exact f h,λg b=>by
   rcases a.new g (BF _ b)with h | h
   ·rcases BI.1 h with e | h
    ·rw[e]at b;exact absurd b c
    ·exact .inl h
   ·exact .inr h⟩
def DV.set(b i:Nat)(v:Value):DV [b] X X w (w.setCell ⟨b,i,none⟩ v) :=
 ⟨rfl,rfl,rfl,by simp,λg _ _ a=>CX _ _ _ _ λe=>a (BH.2 e),λg h=>.inl h⟩
def DV.mono{wr2:List Nat}(s:DV wr X X' w w')(h:∀ b∈wr,b∈wr2):DV wr2 X X' w w':=⟨s.os,s.tape,s.output,s.size,λg a c d=>s.blk g a c λe=>d (h g e),s.nx⟩
def DV.trans(s:DV wr X X' w w')(t:DV wr X' X2 w' w2):DV wr X X2 w w2 :=
 ⟨t.os.trans s.os,t.tape.trans s.tape,t.output.trans s.output,BN s.size t.size,λg a b c=>(t.blk g (DD a s.size) (s.out a b) c).trans (s.blk g a b c),λg d=>by
   rcases t.nx g d with h | h
   ·exact s.nx g h
   ·exact .inr (BN s.size h)⟩
def DV.has{b:Nat}{t:TypeId}{cs:Array Value}(s:DV wr X X' w w')(h:Has w b t cs)(a:some b∉X)(c:b∉wr):Has w' b t cs/\some b∉X':=⟨(s.blk b h.lt a c).trans h,s.out h.lt a⟩
def DV.bel(s:DV wr X X' w w')(a:Below w0.heap.size w0 w)(b:∀ i,some i∈X->w0.heap.size<=i)(c:∀ i∈wr,w0.heap.size<=i):Below w0.heap.size w0 w'/\∀ i,some i∈X'->w0.heap.size<=i:=by
 have f:=a.size;refine⟨⟨s.os.trans a.os,s.tape.trans a.tape,s.output.trans a.output,BN a.size s.size,λk d=>?_⟩,λi e=>?_⟩
 ·exact(s.blk k (by omega) (λh=>by have:=b k h;omega) λh=>by have:=c k h;omega).trans (a.block k d)
 ·rcases s.nx i e with h | h
  ·exact b i h
  ·omega
def F9(w:World)(b:Nat)(t:TypeId)(f:Nat->Nat):Prop:=∃ a:Array Value,Has w b t a/\∀ j,j<2->a[j]? = some (.pointer (some ⟨f j,0,none⟩))
def F9.lt{b:Nat}{t:TypeId}{f:Nat->Nat}(h:F9 w b t f):b<w.heap.size:=by obtain⟨c,a,_⟩:=h;exact a.lt
def F9.cell{b:Nat}{t:TypeId}{f:Nat->Nat}(h:F9 w b t f){j:Nat}(a:j<2):w.cell? ⟨b,j,none⟩=some (.pointer (some ⟨f j,0,none⟩)):=by
 obtain⟨e,c,d⟩:=h;rw[c.cell];exact d j a
def F9.frozen{b:Nat}{t:TypeId}{f:Nat->Nat}(h:F9 w b t f)(i:Nat):w.frozen? ⟨b,i,none⟩=false:=by
 obtain⟨c,a,_⟩:=h;exact a.frozen i
def F9.IE{b:Nat}{t:TypeId}{f:Nat->Nat}(h:F9 w b t f)(s:DV wr X X' w w')(d:some b∉X)(e:b∉wr):F9 w' b t f:=by
 obtain⟨c,a,g⟩:=h;exact⟨c,(s.blk b a.lt d e).trans a,g⟩
def F9.set{b:Nat}{t:TypeId}{f:Nat->Nat}(h:F9 w b t f){k:Nat}(d:k<2)(x:Nat):F9 (w.setCell ⟨b,k,none⟩ (.pointer (some ⟨x,0,none⟩))) b t (upd f k x):=by
 obtain⟨c,g,a⟩:=h;refine⟨_,g.set k _,λj i=>?_⟩;have l:k<c.size:=(LK.1 (a k d)).1;by_cases e:j=k
 ·rw[e,Iq,Array.getElem?_setIfInBounds_self_of_lt l]
 ·rw[upd_ne e,Array.getElem?_setIfInBounds_ne (OJ e)];exact a j i
def F9.type{b:Nat}{t a:TypeId}{f g:Nat->Nat}(h:F9 w b t f)(k:F9 w b a g):t=a:=by
 obtain⟨i,c,_⟩:=h;obtain⟨j,d,_⟩:=k;have:=c.symm.trans d
 injection this with e
 injection e
def F9.ne{b d:Nat}{t a:TypeId}{f:Nat->Nat}{cs:Array Value}(h:F9 w b t f)(k:Has w d a cs)(c:t≠a):b≠d:=λe=>by
 subst e;obtain⟨i,g,_⟩:=h;have:=g.symm.trans k
 injection this with e
 injection e with e1 e2
 exact c e2
def Has.ne{b d:Nat}{t a:TypeId}{cs c:Array Value}(h:Has w b t cs)(k:Has w d a c)(f:t≠a):b≠d:=λe=>by
 subst e;have:=h.symm.trans k
 injection this with e
 injection e with e1 e2
 exact f e2
def MJ(w:World)(X:List (Option Nat))(b:List Nat)(mb:Nat)(E:List En)(A:Option Addr)(c:Nat):Prop :=
 Mp w mb E A c/\some mb∉X/\(0<E.length->∀ a,A=some a->some a.block∉X/\a.block<w.heap.size/\a.block∉b)
def MJ.IE{i:List Nat}{mb c:Nat}{E:List En}{A:Option Addr}(h:MJ w X i mb E A c)(s:DV wr X X' w w')(k:∀ b∈wr,b∈i)(l:mb∉wr):MJ w' X' i mb E A c:=by
 obtain⟨g,j,f⟩:=h;refine⟨⟨(s.blk mb g.has.lt j l).trans g.has,g.rd.stay s.size λd a e=>?_,g.cp⟩,s.out g.has.lt j,λd a e=>⟨s.out (f d a e).2.1 (f d a e).1,DD (f d a e).2.1 s.size,(f d a e).2.2⟩⟩;exact s.blk _ (f d a e).2.1 (f d a e).1 λm=>(f d a e).2.2 (k _ m)
end
def badL(tr kr:Nat)(mb:Nat->Nat):List Nat:=[tr,kr,mb 0,mb 1]
def Xd{tr kr:Nat}{mb:Nat->Nat}{k:Nat}(a:k<2):mb k∈badL tr kr mb:=by
 unfold badL
 match k,a with
 | 0,_=>simp
 | 1,_=>simp
structure LM (w0 w:World) (X:List (Option Nat)) (p tr mr kr:Nat) (tb rt mb kb:Nat->Nat) (E K:Nat->List En):Prop where
 be:Below w0.heap.size w0 w
 lx:∀ i,some i∈X->w0.heap.size<=i
 lb:∀ b∈badL tr kr mb,w0.heap.size<=b
 t0:F9 w tr 31 tb
 m0:F9 w mr 80 mb
 k0:F9 w kr 80 kb
 xs:some tr∉X/\some mr∉X/\some kr∉X
 tm:∀ j,j<2->TM w X (tb j) p (rt j)
 mp:∀ j,j<2->∃ A c,MJ w X (badL tr kr mb) (mb j) (E j) A c
 kp:∀ j,j<2->∃ A c,MJ w X (badL tr kr mb) (kb j) (K j) A c
 ne:mb 0≠mb 1/\mr≠kr/\∀ i j,i<2->j<2->mb i≠kb j
section
variable {w0 w w':World} {X X':List (Option Nat)} {p tr mr kr:Nat} {tb rt mb kb:Nat->Nat} {E K:Nat->List En}
def LM.RP1(h:LM w0 w X p tr mr kr tb rt mb kb E K){i j:Nat}(b:i<2)(c:j<2)(a:j≠i):mb j≠mb i:=by
 match i,j,b,c with
 | 0,0,_,_=>exact absurd rfl a
 | 0,1,_,_=>exact h.ne.1.symm
 | 1,0,_,_=>exact h.ne.1
 | 1,1,_,_=>exact absurd rfl a
def LM.turn(h:LM w0 w X p tr mr kr tb rt mb kb E K)(s:DV [] X X' w w'):LM w0 w' X' p tr mr kr tb rt mb kb E K:=by
 obtain⟨e,f⟩:=s.bel h.be h.lx (λi g=>by cases g);refine⟨e,f,h.lb,h.t0.IE s h.xs.1 (by simp),h.m0.IE s h.xs.2.1 (by simp),h.k0.IE s h.xs.2.2 (by simp),⟨s.out h.t0.lt h.xs.1,s.out h.m0.lt h.xs.2.1,s.out h.k0.lt h.xs.2.2⟩,λj a=>?_,λj a=>?_,λj a=>?_,h.ne⟩
 ·have t:=h.tm j a;exact⟨(s.blk _ t.has.lt t.out (by simp)).trans t.has,s.out t.has.lt t.out⟩
 ·obtain ⟨A,c,m⟩:=h.mp j a;exact⟨A,c,m.IE s (λb d=>by cases d) (by simp)⟩
 ·obtain ⟨A,c,m⟩:=h.kp j a;exact⟨A,c,m.IE s (λb d=>by cases d) (by simp)⟩
def LM.pr(h:LM w0 w X p tr mr kr tb rt mb kb E K){k:Nat}(d:k<2):∃ A c,Pr w X p (tb k) (rt k) (mb k) (E k) A c/\(0<(E k).length->∀ a,A=some a->a.block∉badL tr kr mb):=by
 obtain⟨A,c,g,m2,f⟩:=h.mp k d;refine⟨A,c,⟨h.tm k d,g,m2,Has.ne g.has (h.tm k d).has (by decide),λb a e=>⟨(f b a e).1,λi=>(f b a e).2.2 (by rw[i];exact Xd d),(f b a e).2.1⟩⟩,λb a e=>(f b a e).2.2⟩
def LM.step(h:LM w0 w X p tr mr kr tb rt mb kb E K){k:Nat}(f:k<2)(s:DV [mb k] X X' w w'){E':List En}{A':Option Addr}{c':Nat}(m:Mp w' (mb k) E' A' c')(o:0<E'.length->∀ a,A'=some a->some a.block∉X'/\a.block<w'.heap.size/\a.block∉badL tr kr mb):LM w0 w' X' p tr mr kr tb rt mb kb (upd E k E') K:=by
 obtain⟨A,c,g,m2,C⟩:=h.mp k f;obtain⟨r,u⟩:=s.bel h.be h.lx (λi v=>by rw[BH.1 v];exact h.lb _ (Xd f));have x:tr≠mb k:=h.t0.ne g.has (by decide);have n2:mr≠mb k:=h.m0.ne g.has (by decide);have y:kr≠mb k:=h.k0.ne g.has (by decide)
 have n:∀ b∈[mb k],b∈badL tr kr mb:=λb z=>by rw[BH.1 z];exact Xd f
 refine⟨r,u,h.lb,h.t0.IE s h.xs.1 (by simpa using x),h.m0.IE s h.xs.2.1 (by simpa using n2),h.k0.IE s h.xs.2.2 (by simpa using y),⟨s.out h.t0.lt h.xs.1,s.out h.m0.lt h.xs.2.1,s.out h.k0.lt h.xs.2.2⟩,λj d=>?_,λj d=>?_,λj d=>?_,h.ne⟩
 ·have t:=h.tm j d;have B:tb j≠mb k:=Has.ne t.has g.has (by decide);exact⟨(s.blk _ t.has.lt t.out (by simpa using B)).trans t.has,s.out t.has.lt t.out⟩
 ·by_cases e:j=k
  ·subst e;rw[Iq];exact⟨A',c',m,s.out g.has.lt m2,o⟩
  ·rw [upd_ne e];obtain⟨A2,l,q⟩:=h.mp j d;exact⟨A2,l,q.IE s n (by simpa using h.RP1 f d e)⟩
 ·obtain ⟨A2,l,q⟩:=h.kp j d;exact⟨A2,l,q.IE s n (by simpa using(h.ne.2.2 k j f d).symm)⟩
end
def GG(S:St)(rt:Nat->Nat)(E:Nat->List En)(own:Nat->List Nat):Prop:=(∀ j,j<2->IA S (rt j) (E j) (own j))/\∀ p∈own 0,p∉own 1
def GG.apart{S:St}{rt:Nat->Nat}{E:Nat->List En}{own:Nat->List Nat}(h:GG S rt E own){i j:Nat}(b:i<2)(c:j<2)(a:j≠i):∀ p∈own j,p∉own i:=by
 match i,j,b,c with
 | 0,0,_,_=>exact absurd rfl a
 | 0,1,_,_=>exact λp d e=>h.2 p e d
 | 1,0,_,_=>exact h.2
 | 1,1,_,_=>exact absurd rfl a
def GG.step{S a:St}{rt:Nat->Nat}{E:Nat->List En}{own:Nat->List Nat}(h:GG S rt E own){k r':Nat}(c:k<2){E':List En}{own':List Nat}(t:IA a r' E' own')(m:Mv S a (own k) own'):GG a (upd rt k r') (upd E k E') (upd own k own'):=by
 have key:∀ j,j<2->j≠k->IA a (rt j) (E j) (own j)/\∀ p∈own j,p∉own':=λj b f=>by
  obtain⟨x,Ds,P,g,i,l⟩:=h.1 j b;have d:=h.apart c b f;rw[l]at d ⊢;obtain⟨n,o⟩:=g.congr m d;exact⟨⟨x,Ds,P,n,i,rfl⟩,o⟩
 refine⟨λj b=>?_, ?_⟩
 ·by_cases e:j=k
  ·subst e;rw[Iq,Iq,Iq];exact t
  ·rw[upd_ne e,upd_ne e,upd_ne e];exact(key j b e).1
 ·match k,c with
  | 0,_=>rw[Iq,upd_ne (by omega)];exact λp q r=>(key 1 (by omega) (by omega)).2 p r q
  | 1,_=>rw[Iq,upd_ne (by omega)];exact(key 0 (by omega) (by omega)).2
section
variable {w0 w w':World} {X X':List (Option Nat)} {p tr mr kr:Nat} {tb rt mb kb:Nat->Nat} {E K:Nat->List En}
def LM.RS1(h:LM w0 w X p tr mr kr tb rt mb kb E K){k tn r':Nat}(l:k<2)(m:TM w X tn p r'):LM w0 (w.setCell ⟨tr,k,none⟩ (.pointer (some ⟨tn,0,none⟩))) X p tr mr kr (upd tb k tn) (upd rt k r') mb kb E K:=by
 have s:DV [tr] X X w (w.setCell ⟨tr,k,none⟩ (.pointer (some ⟨tn,0,none⟩))):=.set tr k _
 have f:tr∈badL tr kr mb:=by simp[badL]
 obtain⟨n,o⟩:=s.bel h.be h.lx (λi u=>by rw[BH.1 u];exact h.lb _ f)
 have n2:mr≠tr:=λe=>by have:=(e ▸ h.m0:F9 w tr _ mb).type h.t0;exact absurd this (by decide)
 have v:kr≠tr:=λe=>by have:=(e ▸ h.k0:F9 w tr _ kb).type h.t0;exact absurd this (by decide)
 have g:∀ b∈[tr],b∈badL tr kr mb:=λb hb2=>by rw[BH.1 hb2];exact f
 have d:∀{t r:Nat},TM w X t p r->TM (w.setCell ⟨tr,k,none⟩ (.pointer (some ⟨tn,0,none⟩))) X t p r:=λ{t r} q =>
  ⟨(s.blk _ q.has.lt q.out (by simpa using(h.t0.ne q.has (by decide)).symm)).trans q.has,q.out⟩
 refine⟨n,o,h.lb,h.t0.set l tn,h.m0.IE s h.xs.2.1 (by simpa using n2),h.k0.IE s h.xs.2.2 (by simpa using v),h.xs,λj a=>?_,λj a=>?_,λj a=>?_,h.ne⟩
 ·by_cases e:j=k
  ·subst e;rw[Iq,Iq];exact d m
  ·rw[upd_ne e,upd_ne e];exact d (h.tm j a)
 ·obtain ⟨A,c,q⟩:=h.mp j a;exact⟨A,c,q.IE s g (by simpa using(h.t0.ne q.1.has (by decide)).symm)⟩
 ·obtain ⟨A,c,q⟩:=h.kp j a;exact⟨A,c,q.IE s g (by simpa using(h.t0.ne q.1.has (by decide)).symm)⟩
def LM.clear(h:LM w0 w X p tr mr kr tb rt mb kb E K){k:Nat}(b:k<2):LM w0 (w.setCell ⟨mb k,0,none⟩ (.slice none 0 0)) X p tr mr kr tb rt mb kb (upd E k []) K:=by
 obtain⟨A,c,d,m2,e⟩:=h.mp k b;exact h.step b (.set (mb k) 0 _) (A':=none) (c':=0) ⟨d.has.set 0 _,λa=>absurd a (by simp),BR _⟩ (λa=>absurd a (by simp))
end
def SG0(w0 w:World)(X:List (Option Nat))(p tr mr kr kk:Nat)(tb rt mb kb:Nat->Nat)(E K:Nat->List En)(S:St)(k:Nat)(b:Ending)(w':World):Prop :=
 b = .returned (.bool true)/\∃ X' a tn r' own',PT w' X' p a a 1000 (k+150000)/\LM w0 w' X' p tr mr kr (upd tb kk tn) (upd rt kk r') mb kb (upd E kk []) K/\GG a (upd rt kk r') (upd E kk []) own'/\a.q<=S.q+1/\DV (badL tr kr mb) X X' w w'
def zZ(S:St):S.alloc.q<=S.q+1:=by unfold St.alloc;split <;> simp
def SN0 {w0 w:World} {X:List (Option Nat)} {p tr mr kr kk ct cm c k:Nat} {tb rt mb kb:Nat->Nat} {E K:Nat->List En} {S S0:St} {own:Nat->List Nat} (h:PT w X p S S0 c k) (m:LM w0 w X p tr mr kr tb rt mb kb E K) (t:GG S rt E own) (y:kk<2) (V:c<=36000) (Y:k<=200000000) (Z:S.q<=6000) :
 Calls Tryz.prog 34 #[.pointer (some ⟨p,0,none⟩),.slice (some ⟨tr,0,none⟩) 2 ct,.slice (some ⟨mr,0,none⟩) 2 cm,.int .i64 kk] w (SG0 w0 w X p tr mr kr kk tb rt mb kb E K S k):=by
 have T:=Ac t;obtain⟨x0,Ds,P,t1,t2,t3⟩:=t.1 kk y;have DP:=Ac (λW X (h:PT W X p S S0 c k) (ht:TM W X (tb kk) p (rt kk))=>DN1 h ht (by omega) (by omega) t1 t2);rw[<- t3]at DP;have d:=Ac y;have f:=Ac (AV V (AV Y Z));have D:=m.t0.cell y;have F:=m.t0.lt
 have i1:(kk:Int)<2:=by omega
 have i0:(0:Int)<=(kk:Int):=by omega
 have HP:=Ac h;have G:=Ac m;clear h m t t1 t2 t3 V Y Z;go_enter Tryz.func34,Tryz.ntmps34
 go_upto_region 3 with(first
  |(go_at_call 17;(with_reducible refine(DP.out _ _ HP.out (G.out.tm kk d.out)).mono ?_);rintro en w1 ⟨rfl,g,X1,L,z,M,N⟩;have H:=Ac L;have M1:=Ac (G.turn (.turn z));have l:=Ac (AV M N);have Y1:=Ac (DV.mono (wr2:=badL tr kr mb) (.turn z) (λb a=>by cases a));clear L z M N)
  |(go_at_call 20;refine(Gh _ _).mono ?_;rintro e w1 ⟨rfl,rfl⟩))
 have o:=Ac (FY0 H (by have:=f.out;omega) (by have:=f.out;omega) (by have:=f.out;have:=l.2;omega));have O:=H.ok;obtain⟨tn,r⟩:=qP O (by have:=f.out;have:=l.2;omega)
 have j:(g.alloc.set g.Aj (1,0,[])).q<=S.q+1:=by have:=zZ g;have:=l.2;show g.alloc.q<=_;omega
 obtain⟨n,hn⟩:∃ n,g.Aj=n:=⟨_,rfl⟩;rw[hn]at o tn r j;obtain⟨I,Q⟩:∃ I,g.alloc.set n (1,0,[])=I:=⟨_,rfl⟩;rw[Q]at o tn r j;have T2:=Ac (T.step (k:=kk) (r':=n) d (E':=[]) (own':=[n]) ⟨_,_,_,tn,λps aa=>(by cases aa),rfl⟩ (l.1.trans r));have Q2:=Ac j;clear O tn r j hn Q D F DP
 go_upto_region 4 with(go_at_call 8;(with_reducible refine o.out.mono ?_);rintro en w2 ⟨rfl,X2,R,A⟩;have J:=Ac R;have M2:=Ac (M1.turn (.turn A));have Y2:=Ac (Y1.trans (DV.mono (.turn A) (λb a=>by cases a)));clear R A)
 clear o
 go_upto_region 5 with(go_at_call 9;(refine wB.mono ?_);rintro e s ⟨rfl,B⟩;have u:=Ac (show Below w2.heap.size w2 s from by rw[B];exact Ag _ _);have N3:=Ac (show Has s w2.heap.size 111 #[.pointer (some ⟨p,0,none⟩),.int .i64 n]from by rw[B];exact Has.new _ _ _);have i:=Ac (M2.turn (.below u));have D:=i.t0.cell d;have F:=i.t0.lt;have rf:=i.t0.frozen kk;clear B)
 have TN:TM s X2 w2.heap.size p n:=⟨N3,λhm=>by have:=J.lt _ hm;omega⟩
 have v:=Ac (i.RS1 (k:=kk) (tn:=w2.heap.size) (r':=n) d TN);have Y4:=Ac ((Y2.trans (DV.mono (.below u) (λb a=>by cases a))).trans (DV.mono (.set tr kk (.pointer (some ⟨w2.heap.size,0,none⟩))) (λb a=>by rw[BH.1 a];simp[badL])));have P4:=Ac ((J.below u).set i.xs.1 kk (.pointer (some ⟨w2.heap.size,0,none⟩)));generalize s.setCell ⟨tr,kk,none⟩ (.pointer (some ⟨w2.heap.size,0,none⟩))=W4 at *;generalize w2.heap.size=tn at *;clear TN N3 u i J M2 H M1 HP G D F rf;have r1:=v.m0.cell d;have r2:=v.m0.lt;obtain⟨Am,ab,x,q2,_⟩:=v.mp kk d;have s0:=x.has.cell 0;have s1:=x.has.lt;have s2:=x.has.frozen 0;have Q3:=Ac q2;clear x q2;have M5:=Ac (v.clear d);have P5:=Ac (P4.set Q3 0 (.slice none 0 0))
 have CM:=Ac (jL P5 (by have:=f.out;omega) (by have:=f.out;omega))
 go_wp2_with (first
  |(go_at_call 32;(with_reducible refine CM.out.mono ?_);rintro en w6 ⟨rfl,X6,U,C⟩;have P6:=Ac U;have M6:=Ac (M5.turn (.turn C));have Y6:=Ac ((Y4.trans (DV.mono (.set (mb kk) 0 (.slice none 0 0)) (λb a=>by rw[BH.1 a];exact Xd d))).trans (DV.mono (.turn C) (λb a=>by cases a)));clear U C)
  |(go_at_call 20;refine(Gh _ _).mono ?_;rintro e w1 ⟨rfl,rfl⟩))
 go_ret;exact⟨rfl,X6,I,tn,n,_,P6.more (AY _) (by have:=f.out;omega),M6,T2,Q2,Y6⟩
def LQ1 {w:World} {X:List (Option Nat)} {p tb root mb cA c k:Nat} {S S0:St} {E:List En} {own:List Nat} {A:Option Addr} (a:Us) (h:PT w X p S S0 c k) (r:Pr w X p tb root mb E A cA) (t:IA S root E own) (i:Bd S c k E) (hs:a.s.size<=140737488351232) (ab:a.t.size<=140737488351232) (hn : -9223372036854775808<=a.n/\a.n<=9223372036854775807) (hk:a.kind=1) :
 Calls Tryz.prog 35 #[.pointer (some ⟨p,0,none⟩),.pointer (some ⟨tb,0,none⟩),.pointer (some ⟨mb,0,none⟩),.agg a.arr] w (Hm w X p tb root mb S S0 c k E own A):=by
 obtain⟨kind,f,at_,n,s,N,O,Q,R,ks,L,T,U⟩:=a;dsimp only[Us.arr]at *;subst hk;obtain⟨key,rfl⟩:∃ key,s=AQ key:=⟨s.data.toList,(Jy _).symm⟩;have x:=Ag w (.cells #[.int .i64 1,.int .i64 f,.int .i64 at_,.int .i64 n,.string (AQ key),.string N,.slice O Q R,.slice L T U] 61);have Y:=Ac (h.below x);have y:=Ac (r.below x);have Z:=Ac (Turn.below X x);have b:=Ac (Has.new w 61 #[.int .i64 1,.int .i64 f,.int .i64 at_,.int .i64 n,.string (AQ key),.string N,.slice O Q R,.slice L T U]);have XN:=Ac (show some w.heap.size∉X from λhm=>by have:=h.lt _ hm;omega);have j:=Ac (λW=>Ou (AQ key) W);rw[Bf]at j hs;have ac:=Ac t;have BD:=Ac i;by_cases o:1<=key.length/\key.length<=200
 ·have B:(decide ((1:Int)<=(key.length:Int)) && decide ((key.length:Int)<=200))=true:=by simp;omega
  rw[B]at j;obtain⟨x0,Ds,P,ht,h3,_⟩:=t;have m:=Ac (λW (h:PT W X p S S0 c k) (hm:TM W X tb p root)=>KC1 (key:=key) h hm (by have:=i.c;omega) (by have:=i.k;omega) (by have:=i.q;omega) ht h3 o);have GM:=Ac (λW (h:Mp W mb E A cA)=>EA1 key h (by have:=i.e;omega));obtain⟨V,hV⟩:∃ v,AQ (JG key E)=v:=⟨_,rfl⟩;obtain⟨I,hI⟩:∃ v,Em key E=v:=⟨_,rfl⟩;rw[hV,hI]at m GM;obtain⟨K,C⟩:∃ v,AQ key=v:=⟨_,rfl⟩;rw[C]at m GM j Y y Z b ⊢;clear h r i ht h3 hs ab hn o B hV hI C x;go_enter OI,OH
  go_upto_region 2 with fail
  generalize w.alloc (.cells #[.int .i64 1,.int .i64 f,.int .i64 at_,.int .i64 n,.string K,.string N,.slice O Q R,.slice L T U] 61)=W0 at *;obtain⟨z,l⟩:∃ z,w.heap.size=z:=⟨_,rfl⟩;have HZ:=Ac l;rw[l]at b XN ⊢;clear l;have c0:=b.cell 0;have D:=b.cell 3;have F:=b.cell 4;have G:=b.cell 5;have H:=b.lt
  go_wp2_with (first
   |(go_at_call 100;refine(j _).mono ?_;rintro e w1 ⟨rfl,rfl⟩)
   |(go_at_call 101;(with_reducible refine(m.out _ Y.out y.out.tm).mono ?_);rintro en w4 ⟨rfl,X4,ad,M⟩;have P4:=Ac ad;have J:=Ac (y.turn M);have U4:=Ac (Z.trans M);have d:=Ac (M.has b XN);clear c0 D F G H;have c0:=d.cell 0;have D:=d.cell 3;have F:=d.cell 4;have G:=d.cell 5;have H:=d.lt;clear ad M)
   |(go_at_call 102;(with_reducible refine(GM.out _ J.out.mp).mono ?_);rintro en w5 ⟨rfl,g⟩;have P5:=Ac (P4.below g);have R5:=Ac (J.below g);have U5:=Ac (U4.next g);clear g)
   |(go_at_call 20;refine(Gh _ _).mono ?_;rintro e w1 ⟨rfl,rfl⟩))
  go_ret;exact .read P5 R5 U5 ac (by omega)
 ·have B:(decide ((1:Int)<=(key.length:Int)) && decide ((key.length:Int)<=200))=false:=by simp;omega
  rw[B]at j;have aa:=t.none (by have:=i.q;omega) o;have m:=Ac (λW=>NT0 (w:=W) (tv:=.pointer (some ⟨tb,0,none⟩)) (key:=key) o (by omega));have GM:=Ac (λW (h:Mp W mb E A cA)=>EA1 key h (by have:=i.e;omega));rw[aa.1,aa.2,show AQ ([]:Ky)=⟨#[]⟩from rfl]at GM;obtain⟨K,C⟩:∃ v,AQ key=v:=⟨_,rfl⟩;rw[C]at m GM j Y y Z b ⊢;clear h r t i hs ab hn o B aa C x;go_enter OI,OH
  go_upto_region 2 with fail
  generalize w.alloc (.cells #[.int .i64 1,.int .i64 f,.int .i64 at_,.int .i64 n,.string K,.string N,.slice O Q R,.slice L T U] 61)=W0 at *;obtain⟨z,l⟩:∃ z,w.heap.size=z:=⟨_,rfl⟩;have HZ:=Ac l;rw[l]at b XN ⊢;clear l;have c0:=b.cell 0;have D:=b.cell 3;have F:=b.cell 4;have G:=b.cell 5;have H:=b.lt
  go_wp2_with (first
   |(go_at_call 100;refine(j _).mono ?_;rintro e w1 ⟨rfl,rfl⟩)
   |(go_at_call 101;(with_reducible refine(m.out _).mono ?_);rintro en w4 ⟨rfl,u⟩;have P4:=Ac (Y.below u);have J:=Ac (y.below u);have U4:=Ac (Z.next u);have d:=Ac (b.Ai u);clear c0 D F G H;have c0:=d.cell 0;have D:=d.cell 3;have F:=d.cell 4;have G:=d.cell 5;have H:=d.lt;clear u)
   |(go_at_call 102;(with_reducible refine(GM.out _ J.out.mp).mono ?_);rintro en w5 ⟨rfl,g⟩;have P5:=Ac (P4.below g);have R5:=Ac (J.below g);have U5:=Ac (U4.next g);clear g)
   |(go_at_call 20;refine(Gh _ _).mono ?_;rintro e w1 ⟨rfl,rfl⟩))
  go_ret;exact .read P5 R5 U5 ac (by omega)
def UV0 {w:World} {X:List (Option Nat)} {p tb root mb cA c k:Nat} {S S0:St} {E:List En} {own:List Nat} {A:Option Addr} (a:Us) (h:PT w X p S S0 c k) (r:Pr w X p tb root mb E A cA) (t:IA S root E own) (g:Bd S c k E) (hs:a.s.size<=140737488351232) (aa:a.t.size<=140737488351232) (hn : -9223372036854775808<=a.n/\a.n<=9223372036854775807) (hk:a.kind=3) :
 Calls Tryz.prog 35 #[.pointer (some ⟨p,0,none⟩),.pointer (some ⟨tb,0,none⟩),.pointer (some ⟨mb,0,none⟩),.agg a.arr] w (Hm w X p tb root mb S S0 c k E own A):=by
 obtain⟨kind,f,at_,n,s,L,M,N,O,ks,G,Q,R⟩:=a;dsimp only[Us.arr]at *;subst hk;obtain⟨key,rfl⟩:∃ key,s=AQ key:=⟨s.data.toList,(Jy _).symm⟩;have u:=Ag w (.cells #[.int .i64 3,.int .i64 f,.int .i64 at_,.int .i64 n,.string (AQ key),.string L,.slice M N O,.slice G Q R] 61);have T:=Ac (h.below u);have x:=Ac (r.below u);have U:=Ac (Turn.below X u);have b:=Ac (Has.new w 61 #[.int .i64 3,.int .i64 f,.int .i64 at_,.int .i64 n,.string (AQ key),.string L,.slice M N O,.slice G Q R]);have XN:=Ac (show some w.heap.size∉X from λhm=>by have:=h.lt _ hm;omega);have i:=Ac (λW=>Ou (AQ key) W);rw[Bf]at i hs;have ak:=Ac t;have BD:=Ac g;by_cases H:1<=key.length/\key.length<=200
 ·have y:(decide ((1:Int)<=(key.length:Int)) && decide ((key.length:Int)<=200))=true:=by simp;omega
  rw[y]at i;obtain⟨x0,Ds,P,ht,h3,ho⟩:=t;have j:=Ac (λW (h:PT W X p S S0 c k) (hm:TM W X tb p root)=>TD0 (key:=key) h hm (by have:=g.c;omega) (by have:=g.k;omega) (by have:=g.q;omega) ht h3 H);have GM:=Ac (λW (h:Mp W mb E A cA)=>AX1 key h (by have:=g.e;omega));have HL:=Ac (show(JP key E).length<=E.length from by unfold JP;split <;> simp;omega);rw[<- ho]at j;obtain⟨E2,Z⟩:∃ v,JP key E=v:=⟨_,rfl⟩;obtain⟨I,hI⟩:∃ v,Em key E=v:=⟨_,rfl⟩;rw[Z]at HL;rw[hI,Z]at j GM;obtain⟨K,B⟩:∃ v,AQ key=v:=⟨_,rfl⟩;rw[B]at j GM i T x U b ⊢;clear h r g ht h3 hs aa hn H y Z hI B u ho;go_enter OI,OH
  go_upto_region 2 with fail
  generalize w.alloc (.cells #[.int .i64 3,.int .i64 f,.int .i64 at_,.int .i64 n,.string K,.string L,.slice M N O,.slice G Q R] 61)=W0 at *;obtain⟨z,l⟩:∃ z,w.heap.size=z:=⟨_,rfl⟩;have HZ:=Ac l;rw[l]at b XN ⊢;clear l;have c0:=b.cell 0;have C:=b.cell 3;have D:=b.cell 4;have m:=b.cell 5;have F:=b.lt
  go_wp2_with (first
   |(go_at_call 100;refine(i _).mono ?_;rintro e w1 ⟨rfl,rfl⟩)
   |(go_at_call 13;(with_reducible refine(j.out _ T.out x.out.tm).mono ?_);rintro en w4 ⟨rfl,S4,x4,ab,V,X4,ac,J,ad,ae,af,ag⟩;have al:=Ac ac;have Y:=Ac (x.turn J);have U4:=Ac (U.trans J);have d:=Ac (J.has b XN);have T4:=Ac (AV (show IA S4 root E2 (Gl [x4] ab++V.flatten)from⟨x4,ab,V,ad,af,rfl⟩) (AV ae ag));clear c0 C D m F;have c0:=d.cell 0;have C:=d.cell 3;have D:=d.cell 4;have m:=d.cell 5;have F:=d.lt;clear ac J ad ae af ag)
   |(go_at_call 105;(with_reducible refine(GM.out _ Y.out.mp).mono ?_);rintro en w5 ⟨rfl,ah,A5,m,ai,aj⟩;have G5:=Ac (AV ah (AV ai aj));clear ah ai aj)
   |(go_at_call 20;refine(Gh _ _).mono ?_;rintro e w1 ⟨rfl,rfl⟩))
  go_ret;exact .turned al Y U4 G5.1 G5.2.1 (G5.2.2.imp id λe=>⟨e,λh0=>by have:=HL.out;omega⟩) T4.1 T4.2.1 T4.2.2 (by have:=HL.out;omega) (by omega)
 ·have y:(decide ((1:Int)<=(key.length:Int)) && decide ((key.length:Int)<=200))=false:=by simp;omega
  rw[y]at i;have j:=Ac (λW=>EJ0 (w:=W) (tv:=.pointer (some ⟨tb,0,none⟩)) (key:=key) H (by omega));obtain⟨K,B⟩:∃ v,AQ key=v:=⟨_,rfl⟩;rw[B]at j i T x U b ⊢;clear h r t g hs aa hn H y B u;go_enter OI,OH
  go_upto_region 2 with fail
  generalize w.alloc (.cells #[.int .i64 3,.int .i64 f,.int .i64 at_,.int .i64 n,.string K,.string L,.slice M N O,.slice G Q R] 61)=W0 at *;obtain⟨z,l⟩:∃ z,w.heap.size=z:=⟨_,rfl⟩;have HZ:=Ac l;rw[l]at b XN ⊢;clear l;have c0:=b.cell 0;have C:=b.cell 3;have D:=b.cell 4;have m:=b.cell 5;have F:=b.lt
  go_wp2_with (first
   |(go_at_call 100;refine(i _).mono ?_;rintro e w1 ⟨rfl,rfl⟩)
   |(go_at_call 13;(with_reducible refine(j.out _).mono ?_);rintro en w4 ⟨rfl,o⟩;have V:=Ac (T.below o);have Y:=Ac (x.below o);have U4:=Ac (U.next o);have d:=Ac (b.Ai o);clear c0 C D m F;have c0:=d.cell 0;have C:=d.cell 3;have D:=d.cell 4;have m:=d.cell 5;have F:=d.lt;clear o)
   |(go_at_call 20;refine(Gh _ _).mono ?_;rintro e w1 ⟨rfl,rfl⟩))
  go_ret;exact .read V Y U4 ak (by omega)
def OH1(k v:Ky)(E:List En):(JZ k v E).length<=E.length+1/\0<(JZ k v E).length:=by
 unfold JZ;have:=aA k E;simp only[A8,CU,DF,DJ];omega
def LV1 {w:World} {X:List (Option Nat)} {p tb root mb cA c k:Nat} {S S0:St} {E:List En} {own:List Nat} {A:Option Addr} (a:Us) (h:PT w X p S S0 c k) (r:Pr w X p tb root mb E A cA) (t:IA S root E own) (u:Bd S c k E) (hs:a.s.size<=140737488351232) (aa:a.t.size<=140737488351232) (hn : -9223372036854775808<=a.n/\a.n<=9223372036854775807) (hk:a.kind=2) :
 Calls Tryz.prog 35 #[.pointer (some ⟨p,0,none⟩),.pointer (some ⟨tb,0,none⟩),.pointer (some ⟨mb,0,none⟩),.agg a.arr] w (Hm w X p tb root mb S S0 c k E own A):=by
 obtain⟨kind,f,at_,n,s,J,Y,Z,kc,ks,U,cn,cc⟩:=a;dsimp only[Us.arr]at *;subst hk;obtain⟨key,rfl⟩:∃ key,s=AQ key:=⟨s.data.toList,(Jy _).symm⟩;have L:=Ag w (.cells #[.int .i64 2,.int .i64 f,.int .i64 at_,.int .i64 n,.string (AQ key),.string J,.slice Y Z kc,.slice U cn cc] 61);have M:=Ac (h.below L);have F:=Ac (r.below L);have N:=Ac (Turn.below X L);have b:=Ac (Has.new w 61 #[.int .i64 2,.int .i64 f,.int .i64 at_,.int .i64 n,.string (AQ key),.string J,.slice Y Z kc,.slice U cn cc]);have XN:=Ac (show some w.heap.size∉X from λhm=>by have:=h.lt _ hm;omega);have x:=Ac (λW=>Ou (AQ key) W);rw[Bf]at x hs;have ad:=Ac t;have BD:=Ac u;have LG:=Ac (λW=>BJ1 J n hn aa W)
 by_cases I:1<=key.length/\key.length<=200
 ·have O:(decide ((1:Int)<=(key.length:Int)) && decide ((key.length:Int)<=200))=true:=by simp;omega
  rw[O]at x;obtain⟨x0,Ds,P,ht,h3,ho⟩:=t;have i:=Ac (λW v (h:PT W X p S S0 c k) (hm:TM W X tb p root) j=>JV1 (key:=key) (v:=v) h hm (by have:=u.c;omega) (by have:=u.k;omega) (by have:=u.q;omega) ht h3 I j);have GL:=Ac (λW v j=>JZ0 (w:=W) (tv:=.pointer (some ⟨tb,0,none⟩)) (key:=key) (v:=v) I j);have GM:=Ac (λW v (h:Mp W mb E A cA)=>NU1 key v h (by have:=u.e;omega));rw[<- ho]at i;have PL:=Ac (λv=>OH1 key v E);obtain⟨K,Q⟩:∃ v,AQ key=v:=⟨_,rfl⟩;rw[Q]at i GL GM x M F N b ⊢;clear h r u ht h3 hs aa hn I O Q L ho;go_enter OI,OH
  go_upto_region 2 with fail
  generalize w.alloc (.cells #[.int .i64 2,.int .i64 f,.int .i64 at_,.int .i64 n,.string K,.string J,.slice Y Z kc,.slice U cn cc] 61)=W0 at *;obtain⟨z,y⟩:∃ z,w.heap.size=z:=⟨_,rfl⟩;have HZ:=Ac y;rw[y]at b XN ⊢;clear y;have c0:=b.cell 0;have B:=b.cell 3;have C:=b.cell 4;have o:=b.cell 5;have D:=b.lt
  go_upto_region 11 with(first
   |(go_at_call 100;refine(x _).mono ?_;rintro e w1 ⟨rfl,rfl⟩)
   |(go_at_call 103;(with_reducible refine(LG.out _).mono ?_);rintro R w3 ⟨v,rfl,j,rfl⟩))
  obtain⟨val,m⟩:∃ val,AQ val=v:=⟨v.data.toList,Jy _⟩
  have ab:v.size=val.length:=by rw[<- m,Bf]
  rw[ab]at j;by_cases ac:val.length<=3000
  ·have l1:¬ (3000:Int)<(v.size:Int):=by omega
   have l:=Ac (i _ val M F.tm ac);have MU:=Ac (λW (h:Mp W mb E A cA)=>GM W val h);have HL:=Ac (PL val);rw[m]at l MU;obtain⟨E2,ae⟩:∃ E2,JZ key val E=E2:=⟨_,rfl⟩;rw[ae]at l MU HL;clear j ac ab m ae i GL GM PL
   go_wp2_with (first
    |(go_at_call 12;(with_reducible refine l.out.mono ?_);rintro R w4 ⟨rfl,S4,x4,af,G,X4,ag,V,ah,ai,aj,ak⟩;have ao:=Ac ag;have H:=Ac (F.turn V);have T:=Ac (N.trans V);have d:=Ac (V.has b XN);have T4:=Ac (AV (show IA S4 root E2 (Gl [x4] af++G.flatten)from⟨x4,af,G,ah,aj,rfl⟩) (AV ai ak));clear c0 B C o D;have c0:=d.cell 0;have B:=d.cell 3;have C:=d.cell 4;have o:=d.cell 5;have D:=d.lt;clear ag V ah ai aj ak)
    |(go_at_call 104;(with_reducible refine(MU.out _ H.out.mp).mono ?_);rintro R w5 ⟨rfl,al,A5,o,am,an⟩;have G5:=Ac (AV al (AV am an));clear al am an)
    |(go_at_call 20;refine(Gh _ _).mono ?_;rintro e w1 ⟨rfl,rfl⟩))
   go_ret;exact .turned ao H T G5.1 G5.2.1 (.inl G5.2.2) T4.1 T4.2.1 T4.2.2 (by have:=HL.out;omega) (by omega)
  ·have l1:(3000:Int)<(v.size:Int):=by omega
   have l:=Ac (λW=>GL W val (by omega));rw[m]at l;clear j ac ab m i GL GM PL
   go_wp2_with (first
    |(go_at_call 12;(with_reducible refine(l.out _).mono ?_);rintro R w4 ⟨rfl,g⟩;have G:=Ac (M.below g);have H:=Ac (F.below g);have T:=Ac (N.next g);have d:=Ac (b.Ai g);clear c0 B C o D;have c0:=d.cell 0;have B:=d.cell 3;have C:=d.cell 4;have o:=d.cell 5;have D:=d.lt;clear g)
    |(go_at_call 20;refine(Gh _ _).mono ?_;rintro e w1 ⟨rfl,rfl⟩))
   go_ret;exact .read G H T ad (by omega)
 ·have O:(decide ((1:Int)<=(key.length:Int)) && decide ((key.length:Int)<=200))=false:=by simp;omega
  rw[O]at x;have i:=Ac (λW v=>MS0 (w:=W) (tv:=.pointer (some ⟨tb,0,none⟩)) (key:=key) (v:=v) I (by omega));obtain⟨K,Q⟩:∃ v,AQ key=v:=⟨_,rfl⟩;rw[Q]at i x M F N b ⊢;clear h r t u hs aa hn I O Q L;go_enter OI,OH
  go_upto_region 2 with fail
  generalize w.alloc (.cells #[.int .i64 2,.int .i64 f,.int .i64 at_,.int .i64 n,.string K,.string J,.slice Y Z kc,.slice U cn cc] 61)=W0 at *;obtain⟨z,y⟩:∃ z,w.heap.size=z:=⟨_,rfl⟩;have HZ:=Ac y;rw[y]at b XN ⊢;clear y;have c0:=b.cell 0;have B:=b.cell 3;have C:=b.cell 4;have o:=b.cell 5;have D:=b.lt
  go_upto_region 11 with(first
   |(go_at_call 100;refine(x _).mono ?_;rintro e w1 ⟨rfl,rfl⟩)
   |(go_at_call 103;(with_reducible refine(LG.out _).mono ?_);rintro R w3 ⟨v,rfl,j,rfl⟩))
  obtain⟨val,m⟩:∃ val,AQ val=v:=⟨v.data.toList,Jy _⟩
  have l:=Ac (λW=>i W val);rw[m]at l;clear j m i
  go_wp2_with (first
   |(go_at_call 12;(with_reducible refine(l.out _).mono ?_);rintro R w4 ⟨rfl,g⟩;have G:=Ac (M.below g);have H:=Ac (F.below g);have T:=Ac (N.next g);have d:=Ac (b.Ai g);clear c0 B C o D;have c0:=d.cell 0;have B:=d.cell 3;have C:=d.cell 4;have o:=d.cell 5;have D:=d.lt;clear g)
   |(go_at_call 20;refine(Gh _ _).mono ?_;rintro e w1 ⟨rfl,rfl⟩))
  go_ret;exact .read G H T ad (by omega)
def Hm.told{w w1 w2:World}{X X':List (Option Nat)}{p tb root mb l c k j:Nat}{S S0:St}{E:List En}{own:List Nat}{A:Option Addr}{v:Value}(m:PT w1 X' p S S0 c j)(b:Pr w1 X' p tb root mb E A l)(n:Turn X X' w w1)(d:w1.grownBy w2 v.ownBlock)(h:∀ g,v.ownBlock=some g->w.heap.size<=g/\some g∉X'/\g≠mb/\g≠tb/\(0<E.length->∀ a,A=some a->a.block≠g))(o:IA S root E own)(q:j<=k+12000):Hm w X p tb root mb S S0 c k E own A (.returned (.bool true)) w2:=by
 have i:∀ g,g<w1.heap.size->v.ownBlock≠some g->w2.heap[g]? = w1.heap[g]? := λg r s=>d.block g r λe=>s e.symm;refine .read (m.grown d λg e=>(h g e).2.1) ⟨b.tm.grown d λe=>(h tb e.symm).2.2.2.1 rfl,⟨(i mb b.mp.has.lt λe=>(h mb e).2.2.1 rfl).trans b.mp.has,b.mp.rd.stay d.size λf a e=>i _ (b.rx f a e).2.2 λt=>(h _ t).2.2.2.2 f a e rfl,b.mp.cp⟩,b.mx,b.mt,λf a e=>⟨(b.rx f a e).1,(b.rx f a e).2.1,DD (b.rx f a e).2.2 d.size⟩⟩ (n.Yc d λg e=>(h g e).1) o q
def qN {w w1 d:World} {b:List (Option Nat)} {tb mb:Nat} {v:Value} {n:Nat} {xs:List Value} {E:List En} {A:Option Addr} (f:d.ownsRow w1.heap.size 177 2 v n xs) (k:w.heap.size<=w1.heap.size) (h:∀ g,v.ownBlock=some g->some g∉b) (l:mb<w1.heap.size) (m:tb<w1.heap.size) (i:0<E.length->∀ a,A=some a->a.block<w1.heap.size) :
 ∀ g,v.ownBlock=some g->w.heap.size<=g/\some g∉b/\g≠mb/\g≠tb/\(0<E.length->∀ a,A=some a->a.block≠g):=λg c=>by
 have:=(f.lt g c).1;exact⟨by omega,h g c,by omega,by omega,λj a e=>by have:=i j a e;omega⟩
def vP(fr tk:Ky)(m:Int)(E:List En):(Oz fr tk m E).length<=E.length:=by
 have:=Zy fr tk m E [];simpa[Oz]using this
def BP1(fr tk:Ky)(m:Int)(E:List En):(Zl fr tk m E).length<=E.length:=by
 have:=vP fr tk (-1) E;unfold Zl
 split
 ·rw[YE];exact this
 ·rw[CU,YE];omega
def pM(w:World)(X:List (Option Nat))(p tb root mb:Nat)(a b:St)(c k:Nat)(E:List En)(A:Option Addr)(d:Nat)(e:Ending)(w':World):Prop :=
 e = .returned (.bool true)/\∃ X',PT w' X' p a b c k/\Pr w' X' p tb root mb E A d/\Turn X X' w w'
def FJ1 {w:World} {X:List (Option Nat)} {p tb root mb cA c k:Nat} {S S0:St} {E:List En} {own:List Nat} {A:Option Addr} (a:Us) (h:PT w X p S S0 c k) (r:Pr w X p tb root mb E A cA) (t:IA S root E own) (d:Bd S c k E) (hs:a.s.size<=140737488351232) (ab:a.t.size<=140737488351232) (hn : -9223372036854775808<=a.n/\a.n<=9223372036854775807) (hk:a.kind=4) :
 Calls Tryz.prog 35 #[.pointer (some ⟨p,0,none⟩),.pointer (some ⟨tb,0,none⟩),.pointer (some ⟨mb,0,none⟩),.agg a.arr] w (Hm w X p tb root mb S S0 c k E own A):=by
 obtain⟨kind,f,at_,n,s,x,H,I,J,ks,D,L,M⟩:=a;dsimp only[Us.arr]at *;subst hk;obtain⟨key,rfl⟩:∃ key,s=AQ key:=⟨s.data.toList,(Jy _).symm⟩;have y:=Ag w (.cells #[.int .i64 4,.int .i64 f,.int .i64 at_,.int .i64 n,.string (AQ key),.string x,.slice H I J,.slice D L M] 61);have P0:=Ac (h.below y);have j:=Ac (r.below y);have N:=Ac (Turn.below X y);have g:=Ac (Has.new w 61 #[.int .i64 4,.int .i64 f,.int .i64 at_,.int .i64 n,.string (AQ key),.string x,.slice H I J,.slice D L M]);have XN:=Ac (show some w.heap.size∉X from λO=>by have:=h.lt _ O;omega);have B:=Ac (λW=>Ou (AQ key) W)
 rw[Bf]at B hs;have ac:=Ac t;obtain⟨tk,ad⟩:∃ tk,x=AQ tk:=⟨x.data.toList,(Jy _).symm⟩;subst ad;obtain⟨x0,Ds,P,Q,h3,ho⟩:=t;have ae:=Ac Q.oD;have C:=Ac (λW (h:PT W X p S S0 c k) (O:TM W X tb p root)=>wY (fr:=key) (tk:=tk) (most:=n) h O (by have:=d.c;omega) (by have:=d.e;omega) (by have:=d.k;omega) (by have:=d.q;omega) Q h3);have GM:=Ac (λW (h:Mp W mb E A cA)=>rE key tk n h (by have:=d.e;omega));rw[GM1 ae.out]at C;have LR:=Ac (show(Oz key tk n E).length<=1000 from by have:=d.e;have:=vP key tk n E;omega)
 obtain⟨R,hR⟩:∃ v,Oz key tk n E=v:=⟨_,rfl⟩;rw[hR]at C GM LR;have BQ:=Ac (AV d.q d.e);obtain⟨K,m⟩:∃ v,AQ key=v:=⟨_,rfl⟩;obtain⟨TK,u⟩:∃ v,AQ tk=v:=⟨_,rfl⟩;rw[m,u]at C GM;rw[m,u]at P0 j N g;rw[m]at B;rw[m,u];obtain⟨kb,V⟩:∃ b,(decide ((1:Int)<=(key.length:Int)) && decide ((key.length:Int)<=200))=b:=⟨_,rfl⟩;rw[V]at B;clear h r d Q h3 hs ab hn hR m u y ho V;go_enter OI,OH
 go_upto_region 2 with fail
 generalize w.alloc (.cells #[.int .i64 4,.int .i64 f,.int .i64 at_,.int .i64 n,.string K,.string TK,.slice H I J,.slice D L M] 61)=W0 at *;obtain⟨z,T⟩:∃ z,w.heap.size=z:=⟨_,rfl⟩;rw[T]at g XN ⊢;clear T;have c0:=g.cell 0;have c3:=g.cell 3;have c4:=g.cell 4;have c5:=g.cell 5;have cz:=g.lt
 cases kb
 all_goals
  go_wp2_with (first
   |(go_at_call 100;refine(B _).mono ?_;rintro e w1 ⟨rfl,rfl⟩)
   |(go_at_call 36;(with_reducible refine(C.out _ P0.out j.out.tm).mono ?_);rintro en w4 ⟨v4,X4,rfl,F,Y,l,Z⟩;obtain⟨A4,ag,rfl,_⟩:=Bg F;have P4:=Ac Y;have R4:=Ac (j.turn l);have U4:=Ac (N.trans l);have Z4:=Ac l.size;have U:=Ac (AV F Z);have o:=Ac (l.has g XN);clear c0 c3 c4 c5 cz;have c0:=o.cell 0;have c3:=o.cell 3;have c4:=o.cell 4;have c5:=o.cell 5;have cz:=o.lt;clear Y l F Z)
   |(go_at_call 107;(with_reducible refine(GM.out _ R4.out.mp).mono ?_);rintro en w5 ⟨v5,rfl,i,G⟩;obtain⟨A5,af,rfl,_⟩:=Bg G;have P5:=Ac (P4.below i);have R5:=Ac (R4.below i);have U5:=Ac (U4.next i);have O5:=Ac (own_below U.1 i);have TD:=Ac (qM (c:=af) O5 (BN Z4 i.size) (FV.Ed G rfl) rfl (by have:=LR.out;omega) (by have:=LR.out;omega));clear i G)
   |(go_at_call 106;(with_reducible refine TD.out.mono ?_);rintro en w6 ⟨rfl,aa⟩;have G6:=Ac aa;have e6:decide (R=R)=true:=(by simp);clear aa)
   |(go_at_call 20;refine(Gh _ _).mono ?_;rintro e w1 ⟨rfl,rfl⟩))
  go_ret;exact Hm.told P5 R5 U5 G6 (qN U.1 N.size U.2 j.mp.has.lt j.tm.has.lt λh0 a e=>(j.rx h0 a e).2.2) ac (by have:=BQ.out;omega)
def FR1 {w:World} {X:List (Option Nat)} {p tb root mb cA c k:Nat} {S S0:St} {E:List En} {own:List Nat} {A:Option Addr} (a:Us) (h:PT w X p S S0 c k) (r:Pr w X p tb root mb E A cA) (t:IA S root E own) (d:Bd S c k E) (hs:a.s.size<=140737488351232) (ab:a.t.size<=140737488351232) (hn : -9223372036854775808<=a.n/\a.n<=9223372036854775807) (hk:a.kind=5) :
 Calls Tryz.prog 35 #[.pointer (some ⟨p,0,none⟩),.pointer (some ⟨tb,0,none⟩),.pointer (some ⟨mb,0,none⟩),.agg a.arr] w (Hm w X p tb root mb S S0 c k E own A):=by
 obtain⟨kind,f,at_,n,s,x,H,I,J,ks,D,L,M⟩:=a;dsimp only[Us.arr]at *;subst hk;obtain⟨key,rfl⟩:∃ key,s=AQ key:=⟨s.data.toList,(Jy _).symm⟩;have y:=Ag w (.cells #[.int .i64 5,.int .i64 f,.int .i64 at_,.int .i64 n,.string (AQ key),.string x,.slice H I J,.slice D L M] 61);have P0:=Ac (h.below y);have j:=Ac (r.below y);have N:=Ac (Turn.below X y);have g:=Ac (Has.new w 61 #[.int .i64 5,.int .i64 f,.int .i64 at_,.int .i64 n,.string (AQ key),.string x,.slice H I J,.slice D L M]);have XN:=Ac (show some w.heap.size∉X from λO=>by have:=h.lt _ O;omega);have B:=Ac (λW=>Ou (AQ key) W)
 rw[Bf]at B hs;have ac:=Ac t;obtain⟨tk,ad⟩:∃ tk,x=AQ tk:=⟨x.data.toList,(Jy _).symm⟩;subst ad;obtain⟨x0,Ds,P,Q,h3,ho⟩:=t;have ae:=Ac Q.oD;have C:=Ac (λW (h:PT W X p S S0 c k) (O:TM W X tb p root)=>CT1 (fr:=key) (tk:=tk) (most:=n) h O (by have:=d.c;omega) (by have:=d.e;omega) (by have:=d.k;have:=d.q;omega) (by have:=d.q;omega) Q);have GM:=Ac (λW (h:Mp W mb E A cA)=>JK1 key tk n h (by have:=d.e;omega));rw[DO1 ae.out]at C;have LR:=Ac (show(Zl key tk n E).length<=1000 from by have:=d.e;have:=BP1 key tk n E;omega)
 obtain⟨R,hR⟩:∃ v,Zl key tk n E=v:=⟨_,rfl⟩;rw[hR]at C GM LR;have BQ:=Ac (AV d.q d.e);obtain⟨K,m⟩:∃ v,AQ key=v:=⟨_,rfl⟩;obtain⟨TK,u⟩:∃ v,AQ tk=v:=⟨_,rfl⟩;rw[m,u]at C GM;rw[m,u]at P0 j N g;rw[m]at B;rw[m,u];obtain⟨kb,V⟩:∃ b,(decide ((1:Int)<=(key.length:Int)) && decide ((key.length:Int)<=200))=b:=⟨_,rfl⟩;rw[V]at B;clear h r d Q h3 hs ab hn hR m u y ho V;go_enter OI,OH
 go_upto_region 2 with fail
 generalize w.alloc (.cells #[.int .i64 5,.int .i64 f,.int .i64 at_,.int .i64 n,.string K,.string TK,.slice H I J,.slice D L M] 61)=W0 at *;obtain⟨z,T⟩:∃ z,w.heap.size=z:=⟨_,rfl⟩;rw[T]at g XN ⊢;clear T;have c0:=g.cell 0;have c3:=g.cell 3;have c4:=g.cell 4;have c5:=g.cell 5;have cz:=g.lt
 cases kb
 all_goals
  go_wp2_with (first
   |(go_at_call 100;refine(B _).mono ?_;rintro e w1 ⟨rfl,rfl⟩)
   |(go_at_call 108;(with_reducible refine(C.out _ P0.out j.out.tm).mono ?_);rintro en w4 ⟨v4,X4,rfl,F,Y,l,Z⟩;obtain⟨A4,ag,rfl,_⟩:=Bg F;have P4:=Ac Y;have R4:=Ac (j.turn l);have U4:=Ac (N.trans l);have Z4:=Ac l.size;have U:=Ac (AV F Z);have o:=Ac (l.has g XN);clear c0 c3 c4 c5 cz;have c0:=o.cell 0;have c3:=o.cell 3;have c4:=o.cell 4;have c5:=o.cell 5;have cz:=o.lt;clear Y l F Z)
   |(go_at_call 109;(with_reducible refine(GM.out _ R4.out.mp).mono ?_);rintro en w5 ⟨v5,rfl,i,G⟩;obtain⟨A5,af,rfl,_⟩:=Bg G;have P5:=Ac (P4.below i);have R5:=Ac (R4.below i);have U5:=Ac (U4.next i);have O5:=Ac (own_below U.1 i);have TD:=Ac (qM (c:=af) O5 (BN Z4 i.size) (FV.Ed G rfl) rfl (by have:=LR.out;omega) (by have:=LR.out;omega));clear i G)
   |(go_at_call 106;(with_reducible refine TD.out.mono ?_);rintro en w6 ⟨rfl,aa⟩;have G6:=Ac aa;have e6:decide (R=R)=true:=(by simp);clear aa)
   |(go_at_call 20;refine(Gh _ _).mono ?_;rintro e w1 ⟨rfl,rfl⟩))
  go_ret;exact Hm.told P5 R5 U5 G6 (qN U.1 N.size U.2 j.mp.has.lt j.tm.has.lt λh0 a e=>(j.rx h0 a e).2.2) ac (by have:=BQ.out;omega)
def UW0 {w:World} {X:List (Option Nat)} {p tb root mb G c k:Nat} {S S0:St} {E:List En} {own:List Nat} {A:Option Addr} (a:Us) (h:PT w X p S S0 c k) (r:Pr w X p tb root mb E A G) (t:IA S root E own) (g:Bd S c k E) (H:a.s.size<=140737488351232) (N:a.t.size<=140737488351232) (O : -9223372036854775808<=a.n/\a.n<=9223372036854775807) (P:a.kind=6) :
 Calls Tryz.prog 35 #[.pointer (some ⟨p,0,none⟩),.pointer (some ⟨tb,0,none⟩),.pointer (some ⟨mb,0,none⟩),.agg a.arr] w (pM w X p tb root mb S S 1000 (k+66000) E A G):=by
 obtain⟨kind,f,at_,n,s,o,q,u,x,ks,l,y,B⟩:=a;dsimp only[Us.arr]at *;subst P;obtain⟨key,rfl⟩:∃ key,s=AQ key:=⟨s.data.toList,(Jy _).symm⟩;have i:=Ag w (.cells #[.int .i64 6,.int .i64 f,.int .i64 at_,.int .i64 n,.string (AQ key),.string o,.slice q u x,.slice l y B] 61);have I:=Ac (h.below i);have J:=Ac (r.below i);have L:=Ac (Turn.below X i);have d:=Ac (Has.new w 61 #[.int .i64 6,.int .i64 f,.int .i64 at_,.int .i64 n,.string (AQ key),.string o,.slice q u x,.slice l y B]);have Q:=Ac (show some w.heap.size∉X from λR=>by have:=h.lt _ R;omega);have j:=Ac (λW=>Ou (AQ key) W);rw[Bf]at j H;have BD:=Ac g;have T:=Ac (λW (h:PT W X p S S0 c k)=>jL h (by have:=g.c;omega) (by have:=g.k;omega))
 obtain⟨K,M⟩:∃ v,AQ key=v:=⟨_,rfl⟩;rw[M]at j I J L d ⊢;obtain⟨kb,D⟩:∃ b,(decide ((1:Int)<=(key.length:Int)) && decide ((key.length:Int)<=200))=b:=⟨_,rfl⟩;rw[D]at j;clear h r t g H N O M i D;go_enter OI,OH
 go_upto_region 2 with fail
 generalize w.alloc (.cells #[.int .i64 6,.int .i64 f,.int .i64 at_,.int .i64 n,.string K,.string o,.slice q u x,.slice l y B] 61)=W0 at *;obtain⟨z,C⟩:∃ z,w.heap.size=z:=⟨_,rfl⟩;rw[C]at d Q ⊢;clear C;have c0:=d.cell 0;have c3:=d.cell 3;have c4:=d.cell 4;have c5:=d.cell 5;have cz:=d.lt
 cases kb
 all_goals
  go_wp2_with (first
   |(go_at_call 100;refine(j _).mono ?_;rintro e w1 ⟨rfl,rfl⟩)
   |(go_at_call 32;(with_reducible refine(T.out _ I.out).mono ?_);rintro en w4 ⟨rfl,U,F,m⟩;have V:=Ac F;have Y:=Ac (J.turn m);have Z:=Ac (L.trans m);clear F m)
   |(go_at_call 20;refine(Gh _ _).mono ?_;rintro e w1 ⟨rfl,rfl⟩))
  go_ret;exact⟨rfl,U,V,Y,Z⟩
def NN0 {w:World} {X:List (Option Nat)} {p tb root mb G c k:Nat} {S S0:St} {E:List En} {own:List Nat} {A:Option Addr} (a:Us) (h:PT w X p S S0 c k) (r:Pr w X p tb root mb E A G) (t:IA S root E own) (g:Bd S c k E) (H:a.s.size<=140737488351232) (N:a.t.size<=140737488351232) (O : -9223372036854775808<=a.n/\a.n<=9223372036854775807) (P:a.kind=8) :
 Calls Tryz.prog 35 #[.pointer (some ⟨p,0,none⟩),.pointer (some ⟨tb,0,none⟩),.pointer (some ⟨mb,0,none⟩),.agg a.arr] w (pM w X p tb root mb S0 S0 1000 (k+1) E A G):=by
 obtain⟨kind,f,at_,n,s,o,q,u,x,ks,l,y,B⟩:=a;dsimp only[Us.arr]at *;subst P;obtain⟨key,rfl⟩:∃ key,s=AQ key:=⟨s.data.toList,(Jy _).symm⟩;have i:=Ag w (.cells #[.int .i64 8,.int .i64 f,.int .i64 at_,.int .i64 n,.string (AQ key),.string o,.slice q u x,.slice l y B] 61);have I:=Ac (h.below i);have J:=Ac (r.below i);have L:=Ac (Turn.below X i);have d:=Ac (Has.new w 61 #[.int .i64 8,.int .i64 f,.int .i64 at_,.int .i64 n,.string (AQ key),.string o,.slice q u x,.slice l y B]);have Q:=Ac (show some w.heap.size∉X from λR=>by have:=h.lt _ R;omega);have j:=Ac (λW=>Ou (AQ key) W);rw[Bf]at j H;have BD:=Ac g;have T:=Ac (λW (h:PT W X p S S0 c k)=>UO0 h (by have:=g.c;omega) (by have:=g.k;omega))
 obtain⟨K,M⟩:∃ v,AQ key=v:=⟨_,rfl⟩;rw[M]at j I J L d ⊢;obtain⟨kb,D⟩:∃ b,(decide ((1:Int)<=(key.length:Int)) && decide ((key.length:Int)<=200))=b:=⟨_,rfl⟩;rw[D]at j;clear h r t g H N O M i D;go_enter OI,OH
 go_upto_region 2 with fail
 generalize w.alloc (.cells #[.int .i64 8,.int .i64 f,.int .i64 at_,.int .i64 n,.string K,.string o,.slice q u x,.slice l y B] 61)=W0 at *;obtain⟨z,C⟩:∃ z,w.heap.size=z:=⟨_,rfl⟩;rw[C]at d Q ⊢;clear C;have c0:=d.cell 0;have c3:=d.cell 3;have c4:=d.cell 4;have c5:=d.cell 5;have cz:=d.lt
 cases kb
 all_goals
  go_wp2_with (first
   |(go_at_call 100;refine(j _).mono ?_;rintro e w1 ⟨rfl,rfl⟩)
   |(go_at_call 83;(with_reducible refine(T.out _ I.out).mono ?_);rintro en w4 ⟨rfl,U,F,m⟩;have V:=Ac F;have Y:=Ac (J.turn m);have Z:=Ac (L.trans m);clear F m)
   |(go_at_call 20;refine(Gh _ _).mono ?_;rintro e w1 ⟨rfl,rfl⟩))
  go_ret;exact⟨rfl,U,V,Y,Z⟩
def step_none {w:World} {X:List (Option Nat)} {p tb root mb M c k:Nat} {S S0:St} {E:List En} {own:List Nat} {A:Option Addr} (a:Us) (h:PT w X p S S0 c k) (r:Pr w X p tb root mb E A M) (t:IA S root E own) (C:Bd S c k E) (D:a.s.size<=140737488351232) (J:a.t.size<=140737488351232) (N : -9223372036854775808<=a.n/\a.n<=9223372036854775807) (Q:¬ a.kind=1) (R:¬ a.kind=2) (T:¬ a.kind=3) (U:¬ a.kind=4) (V:¬ a.kind=5) (Y:¬ a.kind=6) (Z:¬ a.kind=8) :
 Calls Tryz.prog 35 #[.pointer (some ⟨p,0,none⟩),.pointer (some ⟨tb,0,none⟩),.pointer (some ⟨mb,0,none⟩),.agg a.arr] w (Hm w X p tb root mb S S0 c k E own A):=by
 obtain⟨kind,f,at_,n,s,l,m,o,q,ks,j,u,x⟩:=a;dsimp only[Us.arr]at *;obtain⟨key,rfl⟩:∃ key,s=AQ key:=⟨s.data.toList,(Jy _).symm⟩;have g:=Ag w (.cells #[.int .i64 kind,.int .i64 f,.int .i64 at_,.int .i64 n,.string (AQ key),.string l,.slice m o q,.slice j u x] 61);have F:=Ac (h.below g);have G:=Ac (r.below g);have H:=Ac (Turn.below X g);have d:=Ac (Has.new w 61 #[.int .i64 kind,.int .i64 f,.int .i64 at_,.int .i64 n,.string (AQ key),.string l,.slice m o q,.slice j u x]);have O:=Ac (show some w.heap.size∉X from λP=>by have:=h.lt _ P;omega);have i:=Ac (λW=>Ou (AQ key) W)
 rw[Bf]at i D;have L:=Ac t;obtain⟨K,I⟩:∃ v,AQ key=v:=⟨_,rfl⟩;rw[I]at i F G H d ⊢;obtain⟨kb,B⟩:∃ b,(decide ((1:Int)<=(key.length:Int)) && decide ((key.length:Int)<=200))=b:=⟨_,rfl⟩;rw[B]at i;clear h r t C D J N I g B;go_enter OI,OH
 go_upto_region 2 with fail
 generalize w.alloc (.cells #[.int .i64 kind,.int .i64 f,.int .i64 at_,.int .i64 n,.string K,.string l,.slice m o q,.slice j u x] 61)=W0 at *;obtain⟨z,y⟩:∃ z,w.heap.size=z:=⟨_,rfl⟩;rw[y]at d O ⊢;clear y;have c0:=d.cell 0;have c3:=d.cell 3;have c4:=d.cell 4;have c5:=d.cell 5;have cz:=d.lt
 cases kb
 all_goals
  go_wp2_with (first
   |(go_at_call 100;refine(i _).mono ?_;rintro e w1 ⟨rfl,rfl⟩)
   |(go_at_call 20;refine(Gh _ _).mono ?_;rintro e w1 ⟨rfl,rfl⟩))
  go_ret;exact .read F G H L (by omega)
def IK1{α:Type}(f:Nat->α)(k:Nat):upd f k (f k)=f:=funext λj=>by
 unfold upd;split
 ·next e=>rw[e]
 ·rfl
section
variable {w0 w w':World} {X X':List (Option Nat)} {p tr mr kr:Nat} {tb rt mb kb:Nat->Nat} {E K:Nat->List En}
def LM.vK(h:LM w0 w X p tr mr kr tb rt mb kb E K):∀ b∈badL tr kr mb,b<w.heap.size:=λb a=>by
 obtain⟨_,_,c,_⟩:=h.mp 0 (by omega);obtain⟨_,_,d,_⟩:=h.mp 1 (by omega);have e:=c.has.lt;have f:=d.has.lt;have g:=h.t0.lt;have i:=h.k0.lt;simp[badL]at a;omega
def LM.RQ1(h:LM w0 w X p tr mr kr tb rt mb kb E K){n d c:Nat}(o:n<2){L:List En}{A:Option Addr}(k:MJ w X (badL tr kr mb) d L A c)(m:∀ i,i<2->mb i≠d):LM w0 (w.setCell ⟨kr,n,none⟩ (.pointer (some ⟨d,0,none⟩))) X p tr mr kr tb rt mb (upd kb n d) E (upd K n L):=by
 have s:DV [kr] X X w (w.setCell ⟨kr,n,none⟩ (.pointer (some ⟨d,0,none⟩))):=.set kr n _
 have l:kr∈badL tr kr mb:=by simp[badL]
 obtain⟨r,t⟩:=s.bel h.be h.lx (λi f=>by rw[BH.1 f];exact h.lb _ l)
 have u:tr≠kr:=λe=>by have:=(e ▸ h.t0:F9 w kr _ tb).type h.k0;exact absurd this (by decide)
 have g:∀ b∈[kr],b∈badL tr kr mb:=λb hb2=>by rw[BH.1 hb2];exact l
 refine⟨r,t,h.lb,h.t0.IE s h.xs.1 (by simpa using u),h.m0.IE s h.xs.2.1 (by simpa using h.ne.2.1),h.k0.set o d,h.xs,λj a=>?_,λj a=>?_,λj a=>?_,⟨h.ne.1,h.ne.2.1,λi j f a=>?_⟩⟩
 ·have q:=h.tm j a;exact⟨(s.blk _ q.has.lt q.out (by simpa using(h.k0.ne q.has (by decide)).symm)).trans q.has,q.out⟩
 ·obtain ⟨A,c,q⟩:=h.mp j a;exact⟨A,c,q.IE s g (by simpa using(h.k0.ne q.1.has (by decide)).symm)⟩
 ·by_cases e:j=n
  ·subst e;rw[Iq,Iq];exact⟨A,c,k.IE s g (by simpa using(h.k0.ne k.1.has (by decide)).symm)⟩
  ·rw [upd_ne e,upd_ne e];obtain⟨A,c,q⟩:=h.kp j a;exact⟨A,c,q.IE s g (by simpa using(h.k0.ne q.1.has (by decide)).symm)⟩
 ·by_cases e:j=n
  ·subst e;rw[Iq];exact m i f
  ·rw[upd_ne e];exact h.ne.2.2 i j f a
def LM.keep (h:LM w0 w X p tr mr kr tb rt mb kb E K) (g:∀ i,some i∈X->i<w.heap.size) {n c:Nat} (j:n<2) {A:Option Addr} (b:MJ w X (badL tr kr mb) (mb n) (E n) A c) :
 LM w0 ((w.alloc (.cells #[.slice A (E n).length c] 83)).setCell ⟨kr,n,none⟩ (.pointer (some ⟨w.heap.size,0,none⟩))) X p tr mr kr tb rt mb (upd kb n w.heap.size) E (upd K n (E n)):=by
 have d:=Ag w (.cells #[.slice A (E n).length c] 83);refine(h.turn (.below d)).RQ1 j (A:=A) (c:=c) ⟨⟨Has.new _ _ _,b.1.rd.below d,b.1.cp⟩,λk=>by have:=g _ k;omega,λf a e=>⟨(b.2.2 f a e).1,DD (b.2.2 f a e).2.1 d.size,(b.2.2 f a e).2.2⟩⟩ λi l=>?_;have:=h.vK _ (Xd (tr:=tr) (kr:=kr) (mb:=mb) l);omega
def LM.back (h:LM w0 w X p tr mr kr tb rt mb kb E K) {n c:Nat} (f:n<2) {A:Option Addr} (b:MJ w X (badL tr kr mb) (kb n) (K n) A c) :
 LM w0 (w.setCell ⟨mb n,0,none⟩ (.slice A (K n).length c)) X p tr mr kr tb rt mb kb (upd E n (K n)) K:=by
 obtain⟨A2,j,g,m2,k⟩:=h.mp n f
 refine h.step f (.set (mb n) 0 _) (A':=A) (c':=c) ⟨g.has.set 0 _,b.1.rd.stay (by simp) λd a e=>CX _ _ _ _ λi=>(b.2.2 d a e).2.2 (by rw[i];exact Xd f),b.1.cp⟩ λd a e=>⟨(b.2.2 d a e).1,by simpa using(b.2.2 d a e).2.1,(b.2.2 d a e).2.2⟩
def GG.congr{S:St}{E':Nat->List En}{own:Nat->List Nat}(h:GG S rt E own)(b:∀ j,j<2->E j=E' j):GG S rt E' own:=⟨λj a=>by rw[<- b j a];exact h.1 j a,h.2⟩
end
def AnyPost(w0 w:World)(X:List (Option Nat))(p tr mr kr kk:Nat)(tb rt mb kb:Nat->Nat)(E K:Nat->List En)(S S0:St)(c k:Nat)(b:Ending)(w':World):Prop :=
 b = .returned (.bool true)/\∃ X' a E' own',PT w' X' p a S0 (c+120) (k+12000)/\LM w0 w' X' p tr mr kr tb rt mb kb (upd E kk E') K/\GG a rt (upd E kk E') own'/\a.q<=S.q+21/\E'.length<=(E kk).length+1/\DV (badL tr kr mb) X X' w w'
section
variable {w0 w:World} {X:List (Option Nat)} {p tr mr kr kk c k:Nat} {tb rt mb kb:Nat->Nat} {E K:Nat->List En} {S S0:St} {own:Nat->List Nat}
def QB1 (a:Us) (h:PT w X p S S0 c k) (m:LM w0 w X p tr mr kr tb rt mb kb E K) (t:GG S rt E own) (d:kk<2) (f:Bd S c k (E kk)) (g:a.s.size<=140737488351232) (i:a.t.size<=140737488351232) (j : -9223372036854775808<=a.n/\a.n<=9223372036854775807) (F:¬ a.kind=6) (G:¬ a.kind=8) :
 Calls Tryz.prog 35 #[.pointer (some ⟨p,0,none⟩),.pointer (some ⟨tb kk,0,none⟩),.pointer (some ⟨mb kk,0,none⟩),.agg a.arr] w (AnyPost w0 w X p tr mr kr kk tb rt mb kb E K S S0 c k):=by
 obtain⟨A,T,r,D⟩:=m.pr d
 have key:Calls Tryz.prog 35 #[.pointer (some ⟨p,0,none⟩),.pointer (some ⟨tb kk,0,none⟩),.pointer (some ⟨mb kk,0,none⟩),.agg a.arr] w (Hm w X p (tb kk) (rt kk) (mb kk) S S0 c k (E kk) (own kk) A):=by
  by_cases v:a.kind=1
  ·exact LQ1 a h r (t.1 kk d) f g i j v
  by_cases x:a.kind=2
  ·exact LV1 a h r (t.1 kk d) f g i j x
  by_cases y:a.kind=3
  ·exact UV0 a h r (t.1 kk d) f g i j y
  by_cases z:a.kind=4
  ·exact FJ1 a h r (t.1 kk d) f g i j z
  by_cases B:a.kind=5
  ·exact FR1 a h r (t.1 kk d) f g i j B
  exact step_none a h r (t.1 kk d) f g i j v x y z B F G
 refine key.mono ?_;rintro U w' ⟨H,I,X',E',own',A',R,J,l,C,L,M,N,O,P⟩;refine⟨H,X',I,E',_,J,m.step d (.vS C l.mx) l.mp (λo a e=>⟨(l.rx o a e).1,(l.rx o a e).2.2, ?_⟩),by have:=t.step d L M;rw[IK1]at this;exact this,N,O,(DV.vS C l.mx).mono λb q=>by rw[BH.1 q];exact Xd d⟩
 rcases P with⟨u,Q⟩ | u
 ·exact D (Q o) a (u ▸ e)
 ·intro q;have:=m.vK _ q;have:=u a e;omega
def HN1 (a:Us) (h:PT w X p S S0 c k) (m:LM w0 w X p tr mr kr tb rt mb kb E K) (t:GG S rt E own) (d:kk<2) (g:Bd S c k (E kk)) (i:a.s.size<=140737488351232) (j:a.t.size<=140737488351232) (l : -9223372036854775808<=a.n/\a.n<=9223372036854775807) (o:a.kind=6) :
 Calls Tryz.prog 35 #[.pointer (some ⟨p,0,none⟩),.pointer (some ⟨tb kk,0,none⟩),.pointer (some ⟨mb kk,0,none⟩),.agg a.arr] w (λe w'=>e = .returned (.bool true)/\∃ X',PT w' X' p S S 1000 (k+66000)/\LM w0 w' X' p tr mr kr tb rt mb kb E K/\DV (badL tr kr mb) X X' w w'):=by
 obtain⟨A,y,r,x⟩:=m.pr d;refine(UW0 a h r (t.1 kk d) g i j l o).mono ?_;rintro e w' ⟨q,X',u,z,f⟩;exact⟨q,X',u,m.turn (.turn f),DV.mono (.turn f) λb v=>by cases v⟩
def UH0 (a:Us) (h:PT w X p S S0 c k) (m:LM w0 w X p tr mr kr tb rt mb kb E K) (t:GG S rt E own) (d:kk<2) (g:Bd S c k (E kk)) (i:a.s.size<=140737488351232) (j:a.t.size<=140737488351232) (l : -9223372036854775808<=a.n/\a.n<=9223372036854775807) (o:a.kind=8) :
 Calls Tryz.prog 35 #[.pointer (some ⟨p,0,none⟩),.pointer (some ⟨tb kk,0,none⟩),.pointer (some ⟨mb kk,0,none⟩),.agg a.arr] w (λe w'=>e = .returned (.bool true)/\∃ X',PT w' X' p S0 S0 1000 (k+1)/\LM w0 w' X' p tr mr kr tb rt mb kb E K/\DV (badL tr kr mb) X X' w w'):=by
 obtain⟨A,y,r,x⟩:=m.pr d;refine(NN0 a h r (t.1 kk d) g i j l o).mono ?_;rintro e w' ⟨q,X',u,z,f⟩;exact⟨q,X',u,m.turn (.turn f),DV.mono (.turn f) λb v=>by cases v⟩
end
def VW(w0:World)(p tr mr kr kk:Nat)(tb rt mb kb:Nat->Nat)(E K:Nat->List En)(S S0:St)(c k:Nat)(kind:Int)(X':List (Option Nat))(w':World):Prop :=
 ((kind=6\/kind=7)/\∃ a d b E' own',PT w' X' p a a 1000 (k+150000)/\LM w0 w' X' p tr mr kr d b mb kb E' K/\GG a b E' own'/\a.q<=S.q+1/\∀ j,j<2->(E' j).length<=(E j).length) \/
 (kind=8/\PT w' X' p S0 S0 1000 (k+150000)/\LM w0 w' X' p tr mr kr tb rt mb kb E K) \/
 (¬ kind=6/\¬ kind=7/\¬ kind=8/\∃ a E' own',PT w' X' p a S0 (c+120) (k+12000)/\LM w0 w' X' p tr mr kr tb rt mb kb (upd E kk E') K/\GG a rt (upd E kk E') own'/\a.q<=S.q+21/\E'.length<=(E kk).length+1)
section
variable {w0 w w' w2:World} {X X':List (Option Nat)} {p tr mr kr kk c k:Nat} {tb rt mb kb:Nat->Nat} {E K:Nat->List En} {S S0:St} {own:Nat->List Nat} {kind:Int}
def VW.below(h:VW w0 p tr mr kr kk tb rt mb kb E K S S0 c k kind X' w')(e:Below w'.heap.size w' w2):VW w0 p tr mr kr kk tb rt mb kb E K S S0 c k kind X' w2:=by
 rcases h with⟨a,i,l,m,E',own',f,g,j⟩ |⟨a,f,g⟩ |⟨a,b,d,i,E',own',f,g,j⟩
 ·exact .inl ⟨a,i,l,m,E',own',f.below e,g.turn (.below e),j⟩
 ·exact .inr (.inl ⟨a,f.below e,g.turn (.below e)⟩)
 ·exact .inr (.inr ⟨a,b,d,i,E',own',f.below e,g.turn (.below e),j⟩)
def CY1(w0 w:World)(X:List (Option Nat))(p tr mr kr kk:Nat)(tb rt mb kb:Nat->Nat)(E K:Nat->List En)(S S0:St)(c k:Nat)(kind:Int)(a:Ending)(w':World):Prop :=
 a = .returned (.bool true)/\∃ X',VW w0 p tr mr kr kk tb rt mb kb E K S S0 c k kind X' w'/\DV (badL tr kr mb) X X' w w'
def OG1 (a:Us) (h:PT w X p S S0 c k) (m:LM w0 w X p tr mr kr tb rt mb kb E K) (t:GG S rt E own) (l:kk<2) (o:Bd S c k (E kk)) (q:a.s.size<=140737488351232) (r:a.t.size<=140737488351232) (u : -9223372036854775808<=a.n/\a.n<=9223372036854775807) (x:¬ a.kind=7) :
 Calls Tryz.prog 35 #[.pointer (some ⟨p,0,none⟩),.pointer (some ⟨tb kk,0,none⟩),.pointer (some ⟨mb kk,0,none⟩),.agg a.arr] w (CY1 w0 w X p tr mr kr kk tb rt mb kb E K S S0 c k a.kind):=by
 by_cases g:a.kind=6
 ·refine (HN1 a h m t l o q r u g).mono ?_;rintro v w' ⟨b,X',d,e,f⟩;exact⟨b,X',.inl ⟨.inl g,S,tb,rt,E,own,d.more (AY _) (by omega),e,t,by omega,λj C=>AY _⟩,f⟩
 by_cases i:a.kind=8
 ·refine (UH0 a h m t l o q r u i).mono ?_;rintro v w' ⟨b,X',d,e,f⟩;exact⟨b,X',.inr (.inl ⟨i,d.more (AY _) (by omega),e⟩),f⟩
 refine(QB1 a h m t l o q r u g i).mono ?_;rintro v w' ⟨b,X',y,E',own',d,e,f,z,A,B⟩;exact⟨b,X',.inr (.inr ⟨g,x,i,y,E',own',d,e,f,z,A⟩),B⟩
def MO1 {b cm:Nat} (h:PT w X p S S0 c k) (m:LM w0 w X p tr mr kr tb rt mb kb E K) (t:GG S rt E own) (a:kk<2) (d:c<=36000) (f:k<=200000000) (g:S.q<=6000) :
 Calls Tryz.prog 34 #[.pointer (some ⟨p,0,none⟩),.slice (some ⟨tr,0,none⟩) 2 b,.slice (some ⟨mr,0,none⟩) 2 cm,.int .i64 kk] w (CY1 w0 w X p tr mr kr kk tb rt mb kb E K S S0 c k 7):=by
 refine(SN0 h m t a d f g).mono ?_;rintro v w' ⟨i,X',l,tn,r',own',n,o,r,s,u⟩;refine⟨i,X',.inl ⟨.inr rfl,l,_,_,_,own',n,o,r,s,λj x=>?_⟩,u⟩;by_cases e:j=kk
 ·rw[e,Iq];exact BR _
 ·rw[upd_ne e];exact AY _
def Xb(w0:World)(p tr mr kr kk z:Nat)(arr:Array Value)(tb rt mb kb:Nat->Nat)(E K:Nat->List En)(S S0:St)(c k:Nat)(kind:Int)(w':World):Prop :=
 ∃ X',VW w0 p tr mr kr kk tb rt mb kb E K S S0 c k kind X' w'/\Has w' z 61 arr/\some z∉X'
def WR(R:World->Prop)(u:Value)(w':World):Prop:=u = .bool true/\R w'
def DN0{z:Nat}{arr:Array Value}:TY (WR (Xb w0 p tr mr kr kk z arr tb rt mb kb E K S S0 c k kind)):=λu w1 w2 a ⟨e,X',b,d,f⟩=>⟨e,X',b.below a,d.Ai a,f⟩
def Ep:TY (λ_ _=>True):=λ_ _ _ _ _=>trivial
def O0(w0 w:World)(X:List (Option Nat))(p tr mr kr z:Nat)(arr:Array Value)(tb rt mb kb:Nat->Nat)(E K:Nat->List En)(S S0:St)(c k:Nat)(b:Bool)(w':World):Prop :=
 (b=false/\PT w' X p S S0 c k/\LM w0 w' X p tr mr kr tb rt mb kb E K/\Has w' z 61 arr/\some z∉X) \/
 (b=true/\Has w' z 61 arr)
def O0.below{z:Nat}{arr:Array Value}{b:Bool}(h:O0 w0 w X p tr mr kr z arr tb rt mb kb E K S S0 c k b w')(d:Below w'.heap.size w' w2):O0 w0 w X p tr mr kr z arr tb rt mb kb E K S S0 c k b w2:=by
 rcases h with⟨a,e,f,g,i⟩ |⟨a,e⟩
 ·exact .inl ⟨a,e.below d,f.turn (.below d),g.Ai d,i⟩
 ·exact .inr ⟨a,e.Ai d⟩
def O0.box{z:Nat}{arr:Array Value}{b:Bool}(h:O0 w0 w X p tr mr kr z arr tb rt mb kb E K S S0 c k b w'):Has w' z 61 arr:=by
 rcases h with⟨a,d,f,e,g⟩ |⟨a,d⟩
 ·exact e
 ·exact d
def O0.rows{z:Nat}{arr:Array Value}{b:Bool}(h:O0 w0 w X p tr mr kr z arr tb rt mb kb E K S S0 c k b w')(d:b=false):LM w0 w' X p tr mr kr tb rt mb kb E K:=by
 rcases h with⟨a,e,f,g,i⟩ |⟨a,e⟩
 ·exact f
 ·rw[d]at a;cases a
def ZQ(m:LM w0 w X p tr mr kr tb rt mb kb E K){z:Nat}{arr:Array Value}(h:Has w z 61 arr):z∉badL tr kr mb:=λa=>by
 obtain⟨_,_,b,_⟩:=m.mp 0 (by omega);obtain⟨_,_,c,_⟩:=m.mp 1 (by omega);have d:=m.t0.ne h (by decide);have n2:=m.k0.ne h (by decide);have f:=Has.ne b.has h (by decide);have g:=Has.ne c.has h (by decide);simp[badL]at a
 rcases a with e | e | e | e
 ·exact d e.symm
 ·exact n2 e.symm
 ·exact f e.symm
 ·exact g e.symm
end
attribute [local go_sem] Ea Bz Bq Act.put
def UA:∀ B:List Value,B.length=27->∃ r s t u v w x y z A a b c d e f g h i j k l m n o p q,B=[r,s,t,u,v,w,x,y,z,A,a,b,c,d,e,f,g,h,i,j,k,l,m,n,o,p,q]
 | [r,s,t,u,v,w,x,y,z,A,a,b,c,d,e,f,g,h,i,j,k,l,m,n,o,p,q],_=>⟨r,s,t,u,v,w,x,y,z,A,a,b,c,d,e,f,g,h,i,j,k,l,m,n,o,p,q,rfl⟩
def Jc.get {PP:Nat->Value->World->Prop} {w:World}:∀ {k:Nat} {a:List Value},Jc PP w k a->∀ j,j<a.length->PP (k+j) (a.getD j undef) w
 | k,[],_,j,hj=>absurd hj (OM _)
 | k,u :: a,h,0,_=>h.1
 | k,u :: a,h,j+1,hj=>by
   have:=Jc.get h.2 j (by simpa using hj);rw[show k+(j+1)=k+1+j by omega];exact this
def Le:Nat->Code->Code
 | 0,c=>c
 | n+1,.seq _ b=>Le n b
 | _+1,c=>c
def Tn:Code->Code
 | .seq a _=>a
 | c=>c
def Vx:Code->Code
 | .block _ c=>c
 | .loop c=>c
 | c=>c
def Y8(a:Us):Prop:=(a.s.size<=140737488351232/\a.t.size<=140737488351232)/\(-9223372036854775808<=a.n/\a.n<=9223372036854775807)/\(-9223372036854775808<=a.f/\a.f<=9223372036854775807)
def KA(i:Nat)(S S0:St)(c k:Nat)(E K:Nat->List En):Prop:=c<=1000+130*i/\k<=1000000+160000*i/\S.q<=4+22*i/\S0.q<=4+22*i/\∀ j,j<2->(E j).length<=i/\(K j).length<=i
def MK1 (w L:World) (X:List (Option Nat)) (p tr mr kr z kk i V l m:Nat) (tb rt mb kb:Nat->Nat) (E K:Nat->List En) (own ea:Nat->List Nat) (S S0:St) (a:Us) (J0:Act->World->Prop) (Q0:Exit->Act->World->Prop) (M N O o P q Q e g v k x y A B C D F G H I J cg ch ci cj ck cl cm co cp cq cr cs ct cu cw cx cy c2 c3 c4 c5 c6 c7 c8 c9 da db dc dd de df dg dh di dj dk dl dm dn dp dq dr ds dt du dv dw dx dy dz d0 d1 d2 d3 d4 ez e0 e1 e2 e4 e5 e6 e7 fa fb fc fd fe ff fg fh fi fj eb ec ed ee ef eg eh ei ej ek el em aa ab ac ad ae af ag ah ai aj ak al am an ao ap aq ar au av aw ax ay az a0 a1 a2 a3 a4 a5 a6 a7 a8 a9 ba bc bd be bf bg bh bi bj bk bl bm bn bo bp bq br bs bt bu bv bw bz b0 b3 b4 b5 b6 b7 b8 b9 ca cb cd:Value)
 (P1:Hid (PT L X p S S0 l m)) (L1:Hid (LM w L X p tr mr kr tb rt mb kb E K)) (AX:Hid (Has L z 61 #[.int .i64 a.kind,.int .i64 a.f,.int .i64 a.at_,.int .i64 a.n,.string a.s,.string a.t,.slice a.kA a.kn a.kc,.slice a.cA a.cn a.cc])) (XN:Hid (some z∉X)) (HT:Hid (GG S rt E own/\GG S0 rt K ea)) (W:Hid (KA i S S0 l m E K)) (ga:Hid (Y8 a)) (d5:Hid (kk<2)) (U:Hid (i<=250)) (h7:a.kind=7)
 (HK:∀(wx:World) (fk fl fm fn fo fp fq fr fs ft fu fv fw fx fy fz f0 f1 eo ep eq er es et eu ev ew ex ey ce:Value),(ce = .bool false/\Xb w p tr mr kr kk z #[.int .i64 a.kind,.int .i64 a.f,.int .i64 a.at_,.int .i64 a.n,.string a.s,.string a.t,.slice a.kA a.kn a.kc,.slice a.cA a.cn a.cc] tb rt mb kb E K S S0 l m a.kind wx)->J0 { tmps:=#[M,N,O,o,.pointer (some ⟨p,0,none⟩),P,.slice (some ⟨tr,0,none⟩) 2 V,.slice (some ⟨mr,0,none⟩) 2 2,q,Q,e,g,v,.pointer (some ⟨z,0,none⟩),.int .i64 kk,k,x,y,A,B,C,D,F,G,H,I,J,cg,ch,ci,cj,ck,cl,cm,co,cp,cq,cr,cs,ct,cu,cw,cx,cy,c2,c3,c4,c5,c6,c7,c8,c9,da,db,dc,dd,de,df,dg,dh,di,dj,dk,dl,dm,dn,dp,dq,dr,ds,dt,du,dv,dw,dx,dy,dz,d0,d1,d2,d3,d4,fk,fl,fm,fn,fo,fp,fq,fr,fs,ft,fu,fv,fw,fx,fy,fz,f0,f1,eo,ep,eq,er,es,et,eu,ev,ew,ex,ey,ce,aa,ab,ac,ad,ae,af,ag,ah,ai,aj,ak,al,am,an,ao,ap,aq,ar,au,av,aw,ax,ay,az,a0,a1,a2,a3,a4,a5,a6,a7,a8,a9,ba,bc,bd,be,bf,bg,bh,bi,bj,bk,bl,bm,bn,bo,bp,bq,br,bs,bt,bu,bv,bw,bz,b0,b3,b4,b5,b6,b7,b8,b9,ca,cb,cd],defers:=[] } wx) :
 Code.wp Tryz.prog (Tn (Tn (Le 2 (Vx (Tn (Le 2 (Vx (Vx (Le 1 (Tn (Le 10 (Tryz.f5.body.getD .skip)))))))))))) (Exit.then J0 Q0) { tmps:=#[M,N,O,o,.pointer (some ⟨p,0,none⟩),P,.slice (some ⟨tr,0,none⟩) 2 V,.slice (some ⟨mr,0,none⟩) 2 2,q,Q,e,g,v,.pointer (some ⟨z,0,none⟩),.int .i64 kk,k,x,y,A,B,C,D,F,G,H,I,J,cg,ch,ci,cj,ck,cl,cm,co,cp,cq,cr,cs,ct,cu,cw,cx,cy,c2,c3,c4,c5,c6,c7,c8,c9,da,db,dc,dd,de,df,dg,dh,di,dj,dk,dl,dm,dn,dp,dq,dr,ds,dt,du,dv,dw,dx,dy,dz,d0,d1,d2,d3,d4,ez,e0,e1,e2,e4,e5,e6,e7,fa,fb,fc,fd,fe,ff,fg,fh,fi,fj,eb,ec,ed,ee,ef,eg,eh,ei,ej,ek,el,em,aa,ab,ac,ad,ae,af,ag,ah,ai,aj,ak,al,am,an,ao,ap,aq,ar,au,av,aw,ax,ay,az,a0,a1,a2,a3,a4,a5,a6,a7,a8,a9,ba,bc,bd,be,bf,bg,bh,bi,bj,bk,bl,bm,bn,bo,bp,bq,br,bs,bt,bu,bv,bw,bz,b0,b3,b4,b5,b6,b7,b8,b9,ca,cb,cd],defers:=[] } L:=by
 conv =>
  arg 2
  simp only[Tryz.f5,Option.getD,Le,Tn,Vx]
 conv =>
  arg 4
  dsimp only
 dsimp only at HK
 have k0:(0:Int)<=(kk:Int):=by omega
 have k2:(kk:Int)<2:=by have:=d5.out;omega
 rw[h7]at AX
 refine Oh 27 8 (λj=>decide (j≠8)) _ (O0 w L X p tr mr kr z #[.int .i64 7,.int .i64 a.f,.int .i64 a.at_,.int .i64 a.n,.string a.s,.string a.t,.slice a.kA a.kn a.kc,.slice a.cA a.cn a.cc] tb rt mb kb E K S S0 l m) (QD [λu _=>u = .pointer (some ⟨z,0,none⟩),λu _=>u = .int .i64 7,λu _=>u = .bool true,λu _=>u = .bool true,λu _=>u = .pointer (some ⟨p,0,none⟩),λu _=>u = .slice (some ⟨tr,0,none⟩) 2 V,λu _=>u = .slice (some ⟨mr,0,none⟩) 2 2,λu _=>u = .int .i64 kk,WR (Xb w p tr mr kr kk z #[.int .i64 7,.int .i64 a.f,.int .i64 a.at_,.int .i64 a.n,.string a.s,.string a.t,.slice a.kA a.kn a.kc,.slice a.cA a.cn a.cc] tb rt mb kb E K S S0 l m 7),λu _=>u = .bool false,λu _=>u = .bool false,λu _=>u = .bool false,λu _=>u = .pointer (some ⟨z,0,none⟩),λu _=>u = .int .i64 7,λu _=>u = .bool false,λu _=>u = .bool false,λ_ _=>True,λ_ _=>True,λ_ _=>True,λ_ _=>True,λ_ _=>True,λ_ _=>True,λ_ _=>True,λ_ _=>True,λ_ _=>True,λ_ _=>True,λ_ _=>True]) (by kernel_rfl) (by kernel_rfl) (by kernel_rfl) rfl (by kernel_rfl) ?hPH ?hst ?hstq ?h0 ?hops ?hopq ?hend
 case hPH=>exact λb w1 w2 h hb=>h.below hb
 case hst=>exact Qj _ ⟨Bh _,Bh _,Bh _,Bh _,Bh _,Bh _,Bh _,Bh _,DN0,Bh _,Bh _,Bh _,Bh _,Bh _,Bh _,Bh _,Ep,Ep,Ep,Ep,Ep,Ep,Ep,Ep,Ep,Ep,Ep,trivial⟩
 case hstq =>
  intro j u w1 w2 Y h
  match j,PQ Y with
  | 0,_=>exact h
  | 1,_=>exact h
  | 2,_=>exact h
  | 3,_=>exact h
  | 4,_=>exact h
  | 5,_=>exact h
  | 6,_=>exact h
  | 7,_=>exact h
  | 8,Y=>exact absurd rfl Y
  | 9,_=>exact h
  | 10,_=>exact h
  | 11,_=>exact h
  | 12,_=>exact h
  | 13,_=>exact h
  | 14,_=>exact h
  | 15,_=>exact h
  | 16,_=>exact h
  | 17,_=>exact h
  | 18,_=>exact h
  | 19,_=>exact h
  | 20,_=>exact h
  | 21,_=>exact h
  | 22,_=>exact h
  | 23,_=>exact h
  | 24,_=>exact h
  | 25,_=>exact h
  | 26,_=>exact h
  | _+27,_=>trivial
 case h0=>exact .inl ⟨rfl,P1.below ((AU _ _).drew),L1.turn (.below ((AU _ _).drew)),AX.Ai ((AU _ _).drew),XN⟩
 case hops =>
  intro bb R wx c d;obtain⟨M,N,O,o,u4,P,u6,u7,q,Q,e,g,v,d6,d7,k,x,y,A,B,C,D,F,G,H,I,J,rfl⟩:=UA R c;clear c;simp only[Bq,Act.put,DY,DZ,EP,EF,EH];refine⟨.inr (.inr λh=>?_),.inr (.inr λh=>?_),.inr (.inr λh=>?_),.inr (.inr λh=>?_),.inr (.inr λh=>?_),.inr (.inr λh=>?_),.inr (.inr λh=>?_),.inr (.inr λh=>?_),.inl rfl,.inr (.inr λh=>?_),.inr (.inr λh=>?_),.inr (.inr λh=>?_),.inr (.inr λh=>?_),.inr (.inr λh=>?_),.inr (.inr λh=>?_),.inr (.inr λh=>?_),.inr (.inr λh=>?_),.inr (.inr λh=>?_),.inr (.inr λh=>?_),.inr (.inr λh=>?_),.inr (.inr λh=>?_),.inr (.inr λh=>?_),.inr (.inr λh=>?_),.inr (.inr λh=>?_),.inr (.inr λh=>?_),.inr (.inr λh=>?_),.inr (.inr λh=>?_),trivial⟩
  ·refine Ae rfl ?_;go_simp;exact⟨AU _ _,rfl⟩
  ·obtain rfl:=h 0 rfl;clear h;have T:=d.box;have c0:=T.cell 0;have cz:=T.lt;refine Ae rfl ?_;go_simp;exact⟨AU _ _,rfl⟩
  ·obtain rfl:=h 1 rfl;refine Ae rfl ?_;go_simp;exact⟨AU _ _,rfl⟩
  ·obtain rfl:=h 2 rfl;refine Ae rfl ?_;go_simp;exact⟨AU _ _,rfl⟩
  ·obtain rfl:=h 3 rfl;refine Fv rfl ?_;go_simp;exact⟨AU _ _,rfl⟩
  ·obtain rfl:=h 3 rfl;refine Fv rfl ?_;go_simp;exact⟨AU _ _,rfl⟩
  ·obtain rfl:=h 3 rfl;refine Fv rfl ?_;go_simp;exact⟨AU _ _,rfl⟩
  ·obtain rfl:=h 3 rfl;refine Fv rfl ?_;go_simp;exact⟨AU _ _,rfl⟩
  ·obtain rfl:=h 3 rfl;obtain⟨rfl,_⟩:=h 8 rfl;refine Fv rfl ?_;go_simp;exact⟨AU _ _,rfl⟩
  ·obtain rfl:=h 3 rfl;obtain rfl:=h 9 rfl;refine Ae rfl ?_;go_simp;exact⟨AU _ _,rfl⟩
  ·obtain rfl:=h 10 rfl;refine Ae rfl ?_;go_simp;exact⟨AU _ _,rfl⟩
  ·obtain rfl:=h 11 rfl;refine Fv rfl ?_;go_simp;exact⟨AU _ _,rfl⟩
  ·obtain rfl:=h 11 rfl;obtain rfl:=h 12 rfl;clear h;have T:=d.box;have c0:=T.cell 0;have cz:=T.lt;refine Fv rfl ?_;go_simp;exact⟨AU _ _,rfl⟩
  ·obtain rfl:=h 11 rfl;obtain rfl:=h 13 rfl;refine Fv rfl ?_;go_simp;exact⟨AU _ _,rfl⟩
  ·obtain rfl:=h 11 rfl;obtain rfl:=h 14 rfl;refine Fv rfl ?_;go_simp;exact⟨AU _ _,rfl⟩
  ·obtain rfl:=h 15 rfl;exact Gu rfl trivial
  ·obtain rfl:=h 15 rfl;exact Gu rfl trivial
  ·obtain rfl:=h 15 rfl;exact Gu rfl trivial
  ·obtain rfl:=h 15 rfl;exact Gu rfl trivial
  ·obtain rfl:=h 15 rfl;exact Gu rfl trivial
  ·obtain rfl:=h 15 rfl;exact Gu rfl trivial
  ·obtain rfl:=h 15 rfl;exact Gu rfl trivial
  ·obtain rfl:=h 15 rfl;exact Gu rfl trivial
  ·obtain rfl:=h 15 rfl;exact Gu rfl trivial
  ·obtain rfl:=h 15 rfl;exact Gu rfl trivial
  ·obtain rfl:=h 15 rfl;exact Gu rfl trivial
 case hopq =>
  intro R wx c d h;obtain⟨M,N,O,o,u4,P,u6,u7,q,Q,e,g,v,d6,d7,k,x,y,A,B,C,D,F,G,H,I,J,rfl⟩:=UA R c;clear c;simp only[Bq,Act.put,DY,DZ,EP,EF,EH];obtain rfl:=h 3 rfl;obtain rfl:=h 4 rfl;obtain rfl:=h 5 rfl;obtain rfl:=h 6 rfl;obtain rfl:=h 7 rfl;refine⟨rfl, ?_⟩;clear h
  rcases d with⟨_,f2,d8,d9,f3⟩ |⟨hf,_⟩
  ·go_simp;refine(MO1 f2 d8 HT.1 d5 (by have hn:=U.out;have:=W.out;unfold KA at this;omega) (by have hn:=U.out;have:=W.out;unfold KA at this;omega) (by have hn:=U.out;have:=W.out;unfold KA at this;omega)).mono ?_;rintro en w4 ⟨rfl,X4,f4,f6⟩;obtain⟨b1,b2⟩:=f6.has d9 f3 (ZQ d8 d9);exact⟨_,rfl,.inr ⟨rfl,b1⟩,rfl,X4,f4,b1,b2⟩
  ·cases hf
 case hend =>
 intro R wx c d cf;have r:=Jc.get cf;clear cf;obtain⟨M,N,O,o,u4,P,u6,u7,q,Q,e,g,v,d6,d7,k,x,y,A,B,C,D,F,G,H,I,J,rfl⟩:=UA R c;clear c;have e3:o = .bool true:=r 3 (by simp);have f7:e = .bool false:=r 10 (by simp);have f8:g = .bool false:=r 11 (by simp);have f9:k = .bool false:=r 15 (by simp);have Z:WR (Xb w p tr mr kr kk z #[.int .i64 7,.int .i64 a.f,.int .i64 a.at_,.int .i64 a.n,.string a.s,.string a.t,.slice a.kA a.kn a.kc,.slice a.cA a.cn a.cc] tb rt mb kb E K S S0 l m 7) q wx:=r 8 (by simp);clear r d;subst e3;subst f7;subst f8;subst f9;have HR:=Ac (And.right Z);have e8:=TP Z;clear Z;subst e8;simp only[Bq,Act.put,DY,DZ,IC,GV,EP,EF,EH]
 go_wp2_with fail
 exact HR
def NT1 (w M:World) (X:List (Option Nat)) (p tr mr kr z kk i Z g q:Nat) (tb rt mb kb:Nat->Nat) (E K:Nat->List En) (own ef:Nat->List Nat) (S S0:St) (a:Us) (J0:Act->World->Prop) (Q0:Exit->Act->World->Prop) (N O P r Q R T k l x m y A B C D F G H I J o cg ch ci cj ck cl cm co cp cq cr cs ct cu cw cx cy c8 c9 da db dc dd de df dg dh di dj dk dl dm dn dp dq dr ds dt du dv dw dx dy dz d0 d1 d2 d3 d4 d5 d6 d7 d8 d9 ea e5 e6 e7 fa fb fc fd fe ff fg fh fi fj fk fl fm fn fo eg eh ei ej ek el em eo ep eq er es aa ab ac ad ae af ag ah ai aj ak al am an ao ap aq ar au av aw ax ay az a0 a1 a2 a3 a4 a5 a6 a7 a8 a9 ba bc bd be bf bg bh bi bj bk bl bm bn bo bp bq br bs bt bu bv bw bz b0 b3 b4 b5 b6 b7 b8 b9 ca cb cd:Value)
 (P1:Hid (PT M X p S S0 g q)) (L1:Hid (LM w M X p tr mr kr tb rt mb kb E K)) (AX:Hid (Has M z 61 #[.int .i64 a.kind,.int .i64 a.f,.int .i64 a.at_,.int .i64 a.n,.string a.s,.string a.t,.slice a.kA a.kn a.kc,.slice a.cA a.cn a.cc])) (XN:Hid (some z∉X)) (HT:Hid (GG S rt E own/\GG S0 rt K ef)) (W:Hid (KA i S S0 g q E K)) (Y:Hid (Y8 a)) (L:Hid (kk<2)) (V:Hid (i<=250)) (h7:¬ a.kind=7)
 (HK:∀(wx:World) (fp fq fr fs ft fu fv fw fx fy fz f0 f1 f2 f3 f4 f6 f7 et eu ev ew ex ey ez e0 e1 e2 e4 ce:Value),(ce = .bool false/\Xb w p tr mr kr kk z #[.int .i64 a.kind,.int .i64 a.f,.int .i64 a.at_,.int .i64 a.n,.string a.s,.string a.t,.slice a.kA a.kn a.kc,.slice a.cA a.cn a.cc] tb rt mb kb E K S S0 g q a.kind wx)->J0 { tmps:=#[N,O,P,r,.pointer (some ⟨p,0,none⟩),Q,.slice (some ⟨tr,0,none⟩) 2 Z,.slice (some ⟨mr,0,none⟩) 2 2,R,T,k,l,x,.pointer (some ⟨z,0,none⟩),.int .i64 kk,m,y,A,B,C,D,F,G,H,I,J,o,cg,ch,ci,cj,ck,cl,cm,co,cp,cq,cr,cs,ct,cu,cw,cx,cy,c8,c9,da,db,dc,dd,de,df,dg,dh,di,dj,dk,dl,dm,dn,dp,dq,dr,ds,dt,du,dv,dw,dx,dy,dz,d0,d1,d2,d3,d4,d5,d6,d7,d8,d9,ea,fp,fq,fr,fs,ft,fu,fv,fw,fx,fy,fz,f0,f1,f2,f3,f4,f6,f7,et,eu,ev,ew,ex,ey,ez,e0,e1,e2,e4,ce,aa,ab,ac,ad,ae,af,ag,ah,ai,aj,ak,al,am,an,ao,ap,aq,ar,au,av,aw,ax,ay,az,a0,a1,a2,a3,a4,a5,a6,a7,a8,a9,ba,bc,bd,be,bf,bg,bh,bi,bj,bk,bl,bm,bn,bo,bp,bq,br,bs,bt,bu,bv,bw,bz,b0,b3,b4,b5,b6,b7,b8,b9,ca,cb,cd],defers:=[] } wx) :
 Code.wp Tryz.prog (Tn (Tn (Le 2 (Vx (Tn (Le 2 (Vx (Vx (Le 1 (Tn (Le 10 (Tryz.f5.body.getD .skip)))))))))))) (Exit.then J0 Q0) { tmps:=#[N,O,P,r,.pointer (some ⟨p,0,none⟩),Q,.slice (some ⟨tr,0,none⟩) 2 Z,.slice (some ⟨mr,0,none⟩) 2 2,R,T,k,l,x,.pointer (some ⟨z,0,none⟩),.int .i64 kk,m,y,A,B,C,D,F,G,H,I,J,o,cg,ch,ci,cj,ck,cl,cm,co,cp,cq,cr,cs,ct,cu,cw,cx,cy,c8,c9,da,db,dc,dd,de,df,dg,dh,di,dj,dk,dl,dm,dn,dp,dq,dr,ds,dt,du,dv,dw,dx,dy,dz,d0,d1,d2,d3,d4,d5,d6,d7,d8,d9,ea,e5,e6,e7,fa,fb,fc,fd,fe,ff,fg,fh,fi,fj,fk,fl,fm,fn,fo,eg,eh,ei,ej,ek,el,em,eo,ep,eq,er,es,aa,ab,ac,ad,ae,af,ag,ah,ai,aj,ak,al,am,an,ao,ap,aq,ar,au,av,aw,ax,ay,az,a0,a1,a2,a3,a4,a5,a6,a7,a8,a9,ba,bc,bd,be,bf,bg,bh,bi,bj,bk,bl,bm,bn,bo,bp,bq,br,bs,bt,bu,bv,bw,bz,b0,b3,b4,b5,b6,b7,b8,b9,ca,cb,cd],defers:=[] } M:=by
 conv =>
  arg 2
  simp only[Tryz.f5,Option.getD,Le,Tn,Vx]
 conv =>
  arg 4
  dsimp only
 dsimp only at HK
 have k0:(0:Int)<=(kk:Int):=by omega
 have k2:(kk:Int)<2:=by have:=L.out;omega
 refine Oh 27 26 (λj=>decide (j≠26)) _ (O0 w M X p tr mr kr z #[.int .i64 a.kind,.int .i64 a.f,.int .i64 a.at_,.int .i64 a.n,.string a.s,.string a.t,.slice a.kA a.kn a.kc,.slice a.cA a.cn a.cc] tb rt mb kb E K S S0 g q) (QD [λu _=>u = .pointer (some ⟨z,0,none⟩),λu _=>u = .int .i64 a.kind,λu _=>u = .bool false,λu _=>u = .bool false,λ_ _=>True,λ_ _=>True,λ_ _=>True,λ_ _=>True,λ_ _=>True,λ_ _=>True,λu _=>u = .bool false,λu _=>u = .bool false,λu _=>u = .pointer (some ⟨z,0,none⟩),λu _=>u = .int .i64 a.kind,λu _=>u = .bool true,λu _=>u = .bool true,λu _=>u = .pointer (some ⟨p,0,none⟩),λu _=>u = .slice (some ⟨tr,0,none⟩) 2 Z,λu _=>u = .int .i64 kk,λu _=>u = .pointer (some ⟨tr,kk,none⟩),λu _=>u = .pointer (some ⟨tb kk,0,none⟩),λu _=>u = .slice (some ⟨mr,0,none⟩) 2 2,λu _=>u = .int .i64 kk,λu _=>u = .pointer (some ⟨mr,kk,none⟩),λu _=>u = .pointer (some ⟨mb kk,0,none⟩),λu _=>u = .agg #[.int .i64 a.kind,.int .i64 a.f,.int .i64 a.at_,.int .i64 a.n,.string a.s,.string a.t,.slice a.kA a.kn a.kc,.slice a.cA a.cn a.cc],WR (Xb w p tr mr kr kk z #[.int .i64 a.kind,.int .i64 a.f,.int .i64 a.at_,.int .i64 a.n,.string a.s,.string a.t,.slice a.kA a.kn a.kc,.slice a.cA a.cn a.cc] tb rt mb kb E K S S0 g q a.kind)]) (by kernel_rfl) (by kernel_rfl) (by kernel_rfl) rfl (by kernel_rfl) ?hPH ?hst ?hstq ?h0 ?hops ?hopq ?hend
 case hPH=>exact λb w1 w2 h hb=>h.below hb
 case hst=>exact Qj _ ⟨Bh _,Bh _,Bh _,Bh _,Ep,Ep,Ep,Ep,Ep,Ep,Bh _,Bh _,Bh _,Bh _,Bh _,Bh _,Bh _,Bh _,Bh _,Bh _,Bh _,Bh _,Bh _,Bh _,Bh _,Bh _,DN0,trivial⟩
 case hstq =>
  intro j u w1 w2 hj h
  match j,PQ hj with
  | 0,_=>exact h
  | 1,_=>exact h
  | 2,_=>exact h
  | 3,_=>exact h
  | 4,_=>exact h
  | 5,_=>exact h
  | 6,_=>exact h
  | 7,_=>exact h
  | 8,_=>exact h
  | 9,_=>exact h
  | 10,_=>exact h
  | 11,_=>exact h
  | 12,_=>exact h
  | 13,_=>exact h
  | 14,_=>exact h
  | 15,_=>exact h
  | 16,_=>exact h
  | 17,_=>exact h
  | 18,_=>exact h
  | 19,_=>exact h
  | 20,_=>exact h
  | 21,_=>exact h
  | 22,_=>exact h
  | 23,_=>exact h
  | 24,_=>exact h
  | 25,_=>exact h
  | 26,hj=>exact absurd rfl hj
  | _+27,_=>trivial
 case h0=>exact .inl ⟨rfl,P1.below ((AU _ _).drew),L1.turn (.below ((AU _ _).drew)),AX.Ai ((AU _ _).drew),XN⟩
 case hops =>
  intro bb U wx e d;obtain⟨N,O,P,r,u4,Q,u6,u7,R,T,k,l,x,eb,ec,m,y,A,B,C,D,F,G,H,I,J,o,rfl⟩:=UA U e;clear e;simp only[Bq,Act.put,DY,DZ,EP,EF,EH]
  cases bb with
  | true=>exact⟨.inr (.inl ⟨rfl,by kernel_rfl⟩),.inr (.inl ⟨rfl,by kernel_rfl⟩),.inr (.inl ⟨rfl,by kernel_rfl⟩),.inr (.inl ⟨rfl,by kernel_rfl⟩),.inr (.inl ⟨rfl,by kernel_rfl⟩),.inr (.inl ⟨rfl,by kernel_rfl⟩),.inr (.inl ⟨rfl,by kernel_rfl⟩),.inr (.inl ⟨rfl,by kernel_rfl⟩),.inr (.inl ⟨rfl,by kernel_rfl⟩),.inr (.inl ⟨rfl,by kernel_rfl⟩),.inr (.inl ⟨rfl,by kernel_rfl⟩),.inr (.inl ⟨rfl,by kernel_rfl⟩),.inr (.inl ⟨rfl,by kernel_rfl⟩),.inr (.inl ⟨rfl,by kernel_rfl⟩),.inr (.inl ⟨rfl,by kernel_rfl⟩),.inr (.inl ⟨rfl,by kernel_rfl⟩),.inr (.inl ⟨rfl,by kernel_rfl⟩),.inr (.inl ⟨rfl,by kernel_rfl⟩),.inr (.inl ⟨rfl,by kernel_rfl⟩),.inr (.inl ⟨rfl,by kernel_rfl⟩),.inr (.inl ⟨rfl,by kernel_rfl⟩),.inr (.inl ⟨rfl,by kernel_rfl⟩),.inr (.inl ⟨rfl,by kernel_rfl⟩),.inr (.inl ⟨rfl,by kernel_rfl⟩),.inr (.inl ⟨rfl,by kernel_rfl⟩),.inr (.inl ⟨rfl,by kernel_rfl⟩),.inl rfl,trivial⟩
  | false =>
    refine⟨.inr (.inr λh=>?_),.inr (.inr λh=>?_),.inr (.inr λh=>?_),.inr (.inr λh=>?_),.inr (.inr λh=>?_),.inr (.inr λh=>?_),.inr (.inr λh=>?_),.inr (.inr λh=>?_),.inr (.inr λh=>?_),.inr (.inr λh=>?_),.inr (.inr λh=>?_),.inr (.inr λh=>?_),.inr (.inr λh=>?_),.inr (.inr λh=>?_),.inr (.inr λh=>?_),.inr (.inr λh=>?_),.inr (.inr λh=>?_),.inr (.inr λh=>?_),.inr (.inr λh=>?_),.inr (.inr λh=>?_),.inr (.inr λh=>?_),.inr (.inr λh=>?_),.inr (.inr λh=>?_),.inr (.inr λh=>?_),.inr (.inr λh=>?_),.inr (.inr λh=>?_),.inl rfl,trivial⟩
    ·refine Ae rfl ?_;go_simp;exact⟨AU _ _,rfl⟩
    ·obtain rfl:=h 0 rfl;clear h;have c:=d.box;have c0:=c.cell 0;have cz:=c.lt;refine Ae rfl ?_;go_simp;exact⟨AU _ _,rfl⟩
    ·obtain rfl:=h 1 rfl;refine Ae rfl ?_;go_simp;refine⟨AU _ _, ?_⟩;show Value.bool _=Value.bool false;simp[h7]
    ·obtain rfl:=h 2 rfl;refine Ae rfl ?_;go_simp;exact⟨AU _ _,rfl⟩
    ·obtain rfl:=h 3 rfl;exact Gu rfl trivial
    ·obtain rfl:=h 3 rfl;exact Gu rfl trivial
    ·obtain rfl:=h 3 rfl;exact Gu rfl trivial
    ·obtain rfl:=h 3 rfl;exact Gu rfl trivial
    ·obtain rfl:=h 3 rfl;exact Gu rfl trivial
    ·obtain rfl:=h 3 rfl;exact Gu rfl trivial
    ·obtain rfl:=h 3 rfl;refine Ae rfl ?_;go_simp;exact⟨AU _ _,rfl⟩
    ·obtain rfl:=h 10 rfl;refine Ae rfl ?_;go_simp;exact⟨AU _ _,rfl⟩
    ·obtain rfl:=h 11 rfl;refine Fv rfl ?_;go_simp;exact⟨AU _ _,rfl⟩
    ·obtain rfl:=h 11 rfl;obtain rfl:=h 12 rfl;clear h;have c:=d.box;have c0:=c.cell 0;have cz:=c.lt;refine Fv rfl ?_;go_simp;exact⟨AU _ _,rfl⟩
    ·obtain rfl:=h 11 rfl;obtain rfl:=h 13 rfl;refine Fv rfl ?_;go_simp;refine⟨AU _ _, ?_⟩;show Value.bool _=Value.bool true;simp[h7]
    ·obtain rfl:=h 11 rfl;obtain rfl:=h 14 rfl;refine Fv rfl ?_;go_simp;exact⟨AU _ _,rfl⟩
    ·obtain rfl:=h 15 rfl;refine Fv rfl ?_;go_simp;exact⟨AU _ _,rfl⟩
    ·obtain rfl:=h 15 rfl;refine Fv rfl ?_;go_simp;exact⟨AU _ _,rfl⟩
    ·obtain rfl:=h 15 rfl;refine Fv rfl ?_;go_simp;exact⟨AU _ _,rfl⟩
    ·obtain rfl:=h 15 rfl;obtain rfl:=h 17 rfl;obtain rfl:=h 18 rfl;refine Fv rfl ?_;go_simp;exact⟨AU _ _,rfl⟩
    ·obtain rfl:=h 15 rfl;obtain rfl:=h 19 rfl;clear h;have f8:=(d.rows rfl).t0.cell L;have f9:=(d.rows rfl).t0.lt;refine Fv rfl ?_;go_simp;exact⟨AU _ _,rfl⟩
    ·obtain rfl:=h 15 rfl;refine Fv rfl ?_;go_simp;exact⟨AU _ _,rfl⟩
    ·obtain rfl:=h 15 rfl;refine Fv rfl ?_;go_simp;exact⟨AU _ _,rfl⟩
    ·obtain rfl:=h 15 rfl;obtain rfl:=h 21 rfl;obtain rfl:=h 22 rfl;refine Fv rfl ?_;go_simp;exact⟨AU _ _,rfl⟩
    ·obtain rfl:=h 15 rfl;obtain rfl:=h 23 rfl;clear h;have f8:=(d.rows rfl).m0.cell L;have f9:=(d.rows rfl).m0.lt;refine Fv rfl ?_;go_simp;exact⟨AU _ _,rfl⟩
    ·obtain rfl:=h 15 rfl;clear h;have c:=d.box;have c0:=c.cell 0;have g:=c.cell 1;have c2:=c.cell 2;have c3:=c.cell 3;have c4:=c.cell 4;have c5:=c.cell 5;have c6:=c.cell 6;have c7:=c.cell 7;have cz:=c.lt;refine Fv rfl ?_;go_simp;exact⟨AU _ _,rfl⟩
 case hopq =>
  intro U wx e d h;obtain⟨N,O,P,r,u4,Q,u6,u7,R,T,k,l,x,eb,ec,m,y,A,B,C,D,F,G,H,I,J,o,rfl⟩:=UA U e;clear e;simp only[Bq,Act.put,DY,DZ,EP,EF,EH];obtain rfl:=h 15 rfl;obtain rfl:=h 16 rfl;obtain rfl:=h 20 rfl;obtain rfl:=h 24 rfl;obtain rfl:=h 25 rfl;refine⟨rfl, ?_⟩;clear h
  rcases d with⟨_,ga,ed,ee,gb⟩ |⟨hf,_⟩
  ·go_simp;have gh:=(W.2.2.2.2 kk L).1;refine(OG1 a ga ed HT.1 L ⟨by have hn:=V.out;have:=W.out;unfold KA at this;omega,by have hn:=V.out;have:=W.out;unfold KA at this;omega,by have hn:=V.out;have:=W.out;unfold KA at this;omega,by have hn:=V.out;omega⟩ Y.1.1 Y.1.2 Y.2.1 h7).mono ?_;rintro en w4 ⟨rfl,X4,gc,gd⟩;obtain⟨b1,b2⟩:=gd.has ee gb (ZQ ed ee);exact⟨_,rfl,.inr ⟨rfl,b1⟩,rfl,X4,gc,b1,b2⟩
  ·cases hf
 case hend =>
 intro U wx e d cf;have v:=Jc.get cf;clear cf;obtain⟨N,O,P,r,u4,Q,u6,u7,R,T,k,l,x,eb,ec,m,y,A,B,C,D,F,G,H,I,J,o,rfl⟩:=UA U e;clear e;have e3:r = .bool false:=v 3 (by simp);have ge:k = .bool false:=v 10 (by simp);have gf:l = .bool false:=v 11 (by simp);have gg:m = .bool true:=v 15 (by simp);have e9:WR (Xb w p tr mr kr kk z #[.int .i64 a.kind,.int .i64 a.f,.int .i64 a.at_,.int .i64 a.n,.string a.s,.string a.t,.slice a.kA a.kn a.kc,.slice a.cA a.cn a.cc] tb rt mb kb E K S S0 g q a.kind) o wx:=v 26 (by simp);clear v d;subst e3;subst ge;subst gf;subst gg;have HR:=Ac (And.right e9);have e8:=TP e9;clear e9;subst e8;simp only[Bq,Act.put,DY,DZ,IC,GV,EP,EF,EH]
 go_wp2_with fail
 exact HR
end Go.Proofs.YtjihboddejaelaaGreat
namespace Go.Proofs.YtjihboddejaelaaGreat
open Go.RowKit Go.BigFrame
section
variable {w wr:World} {X:List (Option Nat)} {p tr mr kr z j c k cm:Nat} {tb rt mb kb:Nat->Nat} {E K:Nat->List En} {S S0:St} {arr:Array Value} {A:Option Addr}
def GU1 (f:PT wr X p S S0 c k) (a:LM w wr X p tr mr kr tb rt mb kb E K) (g:Has wr z 61 arr) (q:some z∉X) (r:∀ i,i<j->K i=E i) (s:j<2) (m:MJ wr X (badL tr kr mb) (mb j) (E j) A cm) :
 ∃ o l,PT ((wr.setCell ⟨kr,j,none⟩ (.pointer (some ⟨wr.heap.size,0,none⟩))).alloc (.cells #[.slice A (E j).length cm] 83)) X p S S0 c k /\
   LM w ((wr.setCell ⟨kr,j,none⟩ (.pointer (some ⟨wr.heap.size,0,none⟩))).alloc (.cells #[.slice A (E j).length cm] 83)) X p tr mr kr tb rt mb o E l /\
   Has ((wr.setCell ⟨kr,j,none⟩ (.pointer (some ⟨wr.heap.size,0,none⟩))).alloc (.cells #[.slice A (E j).length cm] 83)) z 61 arr/\∀ i,i<j+1->l i=E i:=by
 have t:(wr.setCell ⟨kr,j,none⟩ (.pointer (some ⟨wr.heap.size,0,none⟩))).alloc (.cells #[.slice A (E j).length cm] 83)=(wr.alloc (.cells #[.slice A (E j).length cm] 83)).setCell ⟨kr,j,none⟩ (.pointer (some ⟨wr.heap.size,0,none⟩)):=(bQ _ _ _ _ a.k0.lt).symm;rw[t];have d:=Ag wr (.cells #[.slice A (E j).length cm] 83);refine⟨_,_,(f.below d).set a.xs.2.2 j _,a.keep (λi n=>f.lt _ n) s m, ?_,λi n=>?_⟩
 ·exact((DV.mono (wr2:=[kr]) (.below d) (λb d=>by cases d)).trans (.set kr j (.pointer (some ⟨wr.heap.size,0,none⟩))) |>.has g q λh=>ZQ a g (by rw[BH.1 h];simp[badL])).1
 ·by_cases e:i=j
  ·rw[e,Iq]
  ·rw[upd_ne e];exact r i (by omega)
def DL1 (f:PT wr X p S S0 c k) (a:LM w wr X p tr mr kr tb rt mb kb E K) (d:Has wr z 61 arr) (g:some z∉X) (l:∀ i,i<j->E i=K i) (b:j<2) (m:MJ wr X (badL tr kr mb) (kb j) (K j) A cm) :
 ∃ E',PT (wr.setCell ⟨mb j,0,none⟩ (.slice A (K j).length cm)) X p S S0 c k/\LM w (wr.setCell ⟨mb j,0,none⟩ (.slice A (K j).length cm)) X p tr mr kr tb rt mb kb E' K/\Has (wr.setCell ⟨mb j,0,none⟩ (.slice A (K j).length cm)) z 61 arr/\∀ i,i<j+1->E' i=K i:=by
 obtain⟨_,_,_,n,_⟩:=a.mp j b;refine⟨_,f.set n 0 _,a.back b m, ?_,λi o=>?_⟩
 ·exact((DV.set (X:=X) (mb j) 0 (.slice A (K j).length cm)).has d g λh=>ZQ a d (by rw[BH.1 h];exact Xd b)).1
 ·by_cases e:i=j
  ·rw[e,Iq]
  ·rw[upd_ne e];exact l i (by omega)
def GV1(E:List En):NY [] [] (-1) E=E:=by
 unfold NY KF;rw[AC (by decide)]
 have a:∀ L:List En,(L.dropWhile λe=>decide (ltK e.1 []))=L:=λL=>by
  cases L with
  | nil=>rfl
  | cons e L=>rw[dM,EY Jt];rfl
 have b:∀ L:List En,(L.takeWhile λe=>decide (([]:Ky)=[]) || decide (ltK e.1 []))=L:=λL=>by
  induction L with
  | nil=>rfl
  | cons e L c=>rw[QW,c,EW rfl];rfl
 rw[a,b]
end
end Go.Proofs.YtjihboddejaelaaGreat
