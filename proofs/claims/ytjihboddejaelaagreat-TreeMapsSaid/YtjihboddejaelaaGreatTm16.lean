/-
  Package tree: value.
-/
import Derived.Test.YtjihboddejaelaaGreatTm1
import Derived.Test.YtjihboddejaelaaGreatTm15
import Derived.Test.YtjihboddejaelaaGreatTm4
import Derived.Deep.RegionHeld3
import Derived.Deep.AppendLies
import Derived.Test.YtjihboddejaelaaGreatTm6
set_option linter.unusedVariables false
set_option linter.unusedSimpArgs false
set_option linter.defProp false
set_option maxRecDepth 100000
set_option maxHeartbeats 100000000
namespace Go.Proofs.YtjihboddejaelaaGreat
open Go.RowKit Go.BigFrame
def QK (G:Nat->Pg):List Nat->Ky->Prop
 | [],v=>v=[]
 | p :: r,v=>∃ a b,v=a++b/\a≠[]/\G p=(5,r.headD 0,[AQ a])/\QK G r b
def jJ {G:Nat->Pg}:∀ {l:List Nat} {v:Ky},QK G l v->WV G l
 | [],_,_=>trivial
 | x :: r,v,⟨a,b,_,_,h,hr⟩=>⟨⟨AQ a,h⟩,jJ hr⟩
def kV {G G':Nat->Pg}:∀ {l:List Nat} {v:Ky},QK G l v->(∀ x∈l,G' x=G x)->QK G' l v
 | [],_,h,_=>h
 | x :: r,v,⟨a,b,e,n,h,hr⟩,hc=>⟨a,b,e,n,(hc x AZ).trans h,kV hr λy c=>hc y (BF _ c)⟩
def EL0 {w:World} {tv:Value} {key v:Ky} (g:key.length<=200) (n:v.length<=3000) :
 Calls Tryz.prog 111 #[tv,.string (Af ⟨key,Nb v⟩)] w λe w'=>e = .returned (.string (AQ v))/\w=w':=by
 have a:=Ac (λW=>Ui ⟨key,Nb v⟩ g (by simp[Nb];omega) W);have i:AQ (⟨key,Nb v⟩:It).r=AQ (0 :: v):=rfl;rw[i]at a
 have c:(AQ (0 :: v)).size=v.length+1:=by rw[Bf];simp
 have o:=V8 (s:=AQ (0 :: v)) (by omega);have j:∀ b:0<(AQ (0 :: v)).size,((AQ (0 :: v))[0]'b).toNat=0:=λb=>rfl
 have d:(AQ (0 :: v)).extract 1 (AQ (0 :: v)).size=AQ v:=by
  rw[<- Jy ((AQ (0 :: v)).extract 1 _),RG,Cb,c];simp
 obtain⟨s,f⟩:∃ s,AQ (0 :: v)=s:=⟨_,rfl⟩;rw[f]at a c o d
 have k:∀ b:0<s.size,(s[0]'b).toNat=0:=by subst f;exact j
 obtain⟨q,h⟩:∃ s,Af ⟨key,Nb v⟩=s:=⟨_,rfl⟩;rw[h]at a ⊢
 have m:0<s.size:=by omega
 have l:=k m
 have t:((s[0].toNat:Int) == 0)=true:=by rw[l];rfl
 have u:(0:Int)<(s.size:Int):=by omega
 have x:1<=s.size:=by omega
 have y:(1:Int)<=(s.size:Int):=by omega
 have p:=Ac d;clear i c f j k l h g n d;go_enter Tryz.func111,Tryz.ntmps111
 go_wp2_with (first |(go_at_call 136;refine(a _).mono ?_;rintro e w1 ⟨rfl,rfl⟩))
 go_ret;exact⟨by show Ending.returned (.string (s.extract 1 s.size))=_;rw[p.out],rfl⟩
def RO1(w:World)(X:List (Option Nat))(p tb root c k:Nat)(S S0:St)(ps:List Nat)(v:Ky)(g:Nat)(f h:Value)(wr:World):Prop :=
 ∃ b a d e X',ps=b++a/\v=d++e/\a.length=g/\f = .string (AQ d)/\h = .int .i64 (a.headD 0:Nat)/\QK S.G a e/\PT wr X' p S S0 c (k+b.length)/\Turn X X' w wr/\TM wr X' tb p root
def JG0 {w:World} {X:List (Option Nat)} {tb p root c k:Nat} {S S0:St} {key v:Ky} {ps:List Nat} (h:PT w X p S S0 c k) (D:TM w X tb p root) (N:c<=60000) (hk:k+ps.length<=800000000) (aa:key.length<=200) (o:v.length<=3000) (ab:QK S.G ps v) (P:∀ x∈ps,0<x/\x<S.q) (ac:ps≠[]) :
 Calls Tryz.prog 111 #[.pointer (some ⟨tb,0,none⟩),.string (Af ⟨key,Nh v.length (ps.headD 0)⟩)] w (Gw X w p S S0 c (k+ps.length) (.string (AQ v))):=by
 have m:=h.ok;have t:=Ac (λW=>Ui ⟨key,Nh v.length (ps.headD 0)⟩ aa (by simp[Nh,Ba]) W)
 have ar:ps.headD 0<=65536:=by
  cases hp:ps with
  | nil=>exact absurd hp ac
  | cons x r=>have:=(P x (by rw[hp];exact AZ)).2;have:=m.few;show x<=_;omega
 have E:=Ac (λW=>Uu (Ba (ps.headD 0)) rfl W);rw[Ha (by omega)]at E;have u:AQ (⟨key,Nh v.length (ps.headD 0)⟩:It).r=AQ (Nh v.length (ps.headD 0)):=rfl;rw[u]at t
 have Q:(AQ (Nh v.length (ps.headD 0))).size=7:=by rw[Bf];simp[Nh,Ba]
 have d:(AQ (Nh v.length (ps.headD 0))).extract 3 (AQ (Nh v.length (ps.headD 0))).size=AQ (Ba (ps.headD 0)):=by
  rw[<- Jy ((AQ (Nh v.length (ps.headD 0))).extract 3 _),RG,Cb,Q];rfl
 have e0:=V8 (s:=AQ (Nh v.length (ps.headD 0))) (by omega);have b0:∀ f:0<(AQ (Nh v.length (ps.headD 0))).size,((AQ (Nh v.length (ps.headD 0)))[0]'f).toNat=1:=λf=>rfl
 have ad:∀ f:1<(AQ (Nh v.length (ps.headD 0))).size,((AQ (Nh v.length (ps.headD 0)))[1]'f).toNat=v.length / 256:=λf=>by
  show(UInt8.ofNat (v.length / 256)).toNat=_;have:=Iw (v.length / 256);omega
 have ae:∀ f:2<(AQ (Nh v.length (ps.headD 0))).size,((AQ (Nh v.length (ps.headD 0)))[2]'f).toNat=v.length % 256:=λf=>by
  show(UInt8.ofNat v.length).toNat=_;have:=Iw v.length;omega
 obtain⟨s,y⟩:∃ s,AQ (Nh v.length (ps.headD 0))=s:=⟨_,rfl⟩;rw[y]at t Q d e0
 have z0:0<s.size:=by omega
 have z1:1<s.size:=by omega
 have z2:2<s.size:=by omega
 have b1:(s[0]'z0).toNat=1:=by subst y;exact b0 _
 have af:(s[1]'z1).toNat=v.length / 256:=by subst y;exact ad _
 have ag:(s[2]'z2).toNat=v.length % 256:=by subst y;exact ae _
 obtain⟨s4,ah⟩:∃ s,AQ (Ba (ps.headD 0))=s:=⟨_,rfl⟩;rw[ah]at E d;obtain⟨cb,ai⟩:∃ s,Af ⟨key,Nh v.length (ps.headD 0)⟩=s:=⟨_,rfl⟩;rw[ai]at t ⊢;have E3:=Ac d
 have e9:((s[0].toNat:Int) == 0)=false:=by rw[b1];rfl
 have e7:((s.size:Int) != 7)=false:=by rw[QS];omega
 have z8:3<=s.size:=by omega
 have z9:(3:Int)<=(s.size:Int):=by omega
 have i1:(1:Int)<(s.size:Int):=by omega
 have i2:(2:Int)<(s.size:Int):=by omega
 have O:=Ac (show bits .or .i64 ((s[1].toNat:Int)*256) (s[2].toNat:Int)=(v.length:Int)from by
  have d:=SH 8 (v.length / 256*256) (v.length % 256) (by omega) (by omega) (by omega);rw[af,ag]
  have e4:((v.length / 256*256:Nat):Int)=((v.length / 256:Nat):Int)*256:=by omega
  rw[e4]at d
  have e5:((v.length / 256*256+v.length % 256:Nat):Int)=(v.length:Int):=by omega
  rw[e5]at d
  exact d)
 have y1:(s[1].toNat)<=255:=by omega
 have y2:(s[2].toNat)<=255:=by omega
 have HP:=Ac h;have HT:=Ac D;have aj:=Ac (AV N hk);have au:=Ac ab;have HR:=Ac P;have HV:=Ac o;clear h D N hk aa ab ac m ar u y b0 ad ae b1 af ag ah ai d Q P o;go_enter Tryz.func111,Tryz.ntmps111
 go_wp2_with (first
  |(go_at_call 136;refine(t _).mono ?_;rintro e w1 ⟨rfl,rfl⟩))
 refine Du (w) (by kernel_rfl) (by kernel_rfl) (CQ.start _) ?_
 repeat
  first
   | go_big_quiet_skip
   |(go_big_quiet_want;(first | go_big_quiet_op | go_simp);first | go_big_quiet_on |(apply NC;refine⟨λw' av=>?_, ?_⟩;(·(first |(with_reducible exact rfl) |(fail) |(obtain⟨N,hf⟩:=av.facts;go_simp;first | done |(with_reducible exact rfl) |(with_reducible exact⟨rfl,rfl⟩))));go_big_quiet_on))
 refine MQ ?_;intro wq F;have P0:=Ac (HP.below F.bel);have M0:=Ac (HT.below F.bel);have U0:=Ac (Turn.below X F.bel);rw[O.out]
 go_wp2_with fail
 rw[E3.out];refine(E _).mono ?_;rintro en w1 ⟨rfl,B⟩;have R:=Ac (P0.below B);have T:=Ac (M0.below B);have U:=Ac (U0.next B);clear B t E
 go_wp2_with fail
 clear e0 O E3 P0 M0 U0 F
 go_loopg [7,8] ps.length (λg v7 v8 wr=>RO1 w X p tb root c k S S0 ps v g v7 v8 wr)
 case atStart=>exact⟨[],ps,[],v,X,rfl,rfl,rfl,rfl,by simp,au,R,U,T⟩
 case round =>
  obtain⟨Y,aq,i,vr,H,j,z,Z,rfl,rfl,q4,A,I,q7⟩:=hrel
  cases aq with
  | nil =>
    have ak:vr=[]:=q4
    have ev:v=i:=by rw[z,ak,GI]
    have aw:=Ac (show PT wr H p S S0 c (k+ps.length)from by rw[GI]at j;rw[j];exact A);have UF:=Ac I;have zv:(AQ v).size=v.length:=Bf _;obtain⟨V,l⟩:∃ s,AQ v=s:=⟨_,rfl⟩;rw[<- ev,l];have ax:=Ac l;rw[l]at zv
    have nz:((V.size:Int) != (v.length:Int))=false:=by rw[QS];omega
    clear j z Z q4 A I q7 R T U ak ev l zv
    go_wp2_with fail
    go_ret;exact⟨by rw[ax.out];rfl,H,aw,UF⟩
  | cons x r =>
    obtain⟨a,b,K,ha,o,al⟩:=q4;have C:=HR x (by rw[j];simp);have m:=A.ok
    have am:Y.length+r.length+1=ps.length:=by rw[j];simp;omega
    have ay:v.length=i.length+a.length+b.length:=by rw[z,K];simp;omega
    have az:0<a.length:=QY.2 ha;have a0:=HV.out;have J:=Ac (λW (h:PT W H p S S0 c (k+Y.length)) (D:TM W H tb p root)=>kG (n:=x) h D (by have:=aj.out;omega) (by have:=aj.out;omega) C.2 (m.pg x C.2));rw[o]at J;have u:(((x :: r).headD 0:Nat):Int)=(x:Int):=rfl;rw[u]
    have n0:((x:Int) != 0)=true:=by rw[OE];have:=C.1;omega
    have Q1:=Ac j;have QV:=Ac (show v=(i++a)++b from by rw[z,K,BU]);have Q4:=Ac al;have Q5:=Ac A;have Q6:=Ac I;have Q7:=Ac q7;have Q2:=Ac Z;obtain⟨L,hL⟩:∃ L,r.headD 0=L:=⟨_,rfl⟩;have HL:=Ac hL;rw[hL]at J;have zd:(AQ i).size=i.length:=Bf _;have za:(AQ a).size=a.length:=Bf _;have EA:=Ac (WE i a);obtain⟨V,l⟩:∃ s,AQ i=s:=⟨_,rfl⟩;obtain⟨V1,an⟩:∃ s,AQ a=s:=⟨_,rfl⟩;rw[l]at zd EA ⊢;rw[an]at za EA J
    have lz:(V.size:Int)<(v.length:Int):=by omega
    have a3:V.size+V1.size<=3000:=by omega
    clear j z Z A I q7 o C m am u hL R T U l an zd za ha az a0 ay K al
    go_wp2_with (first
     |(go_at_call 138;refine(J _ Q5 Q7).mono ?_;rintro en w2 ⟨A2,c2,X2,rfl,ao,M,ap,a1⟩;have P2:=Ac (ao.below (Ag _ (.cells #[.int .i64 x,.int .i64 5,.int .i64 L,.slice A2 1 c2] 116)));have M2:=Ac ((Q7.turn M).below (Ag _ (.cells #[.int .i64 x,.int .i64 5,.int .i64 L,.slice A2 1 c2] 116)));have U2:=Ac ((Q6.trans M).next (Ag _ (.cells #[.int .i64 x,.int .i64 5,.int .i64 L,.slice A2 1 c2] 116)));obtain⟨y0,y1,y2,y3⟩:=(Has.new w2 116 #[.int .i64 x,.int .i64 5,.int .i64 L,.slice A2 1 c2]).cells4;have yz:=(Has.new w2 116 #[.int .i64 x,.int .i64 5,.int .i64 L,.slice A2 1 c2]).lt;obtain⟨b2,o2,rfl,a4,g2⟩:=((SS.Ed ap).keep (Ag w2 (.cells #[.int .i64 x,.int .i64 5,.int .i64 L,.slice A2 1 c2] 116))).2 Nat.one_pos;have g3:=g2 0 V1 rfl;rw[VI]at g3;clear ao M ap a1 g2))
    go_roundg r.length
    case rel =>
     refine⟨Y++[x],r,i++a,b,X2,by rw[Q1.out];simp,QV,rfl,by rw[EA.out],by rw[HL.out],Q4, ?_,U2,M2⟩;rw[A8];exact P2
    case measure=>have:=Q2.out;simp at this;omega
structure Es (W:World) (X:List (Option Nat)) (pb o un ul ui mu cu:Nat) (Au:Option Addr) (cur:Array Value) (cells:List ByteArray):Prop where
 hb:Has W pb 122 cur
 c0:cur[o]? = some (.int .i64 un)
 c1:cur[o+1]? = some (.int .i64 2)
 c2:cur[o+2]? = some (.int .i64 ul)
 c3:cur[o+3]? = some (.slice Au mu cu)
 c4:cur[o+4]? = some (.int .i64 ui)
 nb:some pb∉X
 row:W.ownsRow 0 9 1 (.slice Au mu cu) mu (strs cells)
 rx:∀ g,(Value.slice Au mu cu).ownBlock=some g->some g∉X/\g≠pb
section
variable {W W':World} {X X':List (Option Nat)} {pb o un ul ui mu cu:Nat} {Au:Option Addr} {cur:Array Value} {cells:List ByteArray}
def Es.turn(h:Es W X pb o un ul ui mu cu Au cur cells)(b:Turn X X' W W'):Es W' X' pb o un ul ui mu cu Au cur cells :=
 ⟨b.has h.hb h.nb,h.c0,h.c1,h.c2,h.c3,h.c4,b.out h.nb h.hb.lt,Bo h.row λg a=>b.block g (h.row.lt g a).2 (h.rx g a).1,λg a=>⟨b.out (h.rx g a).1 (h.row.lt g a).2,(h.rx g a).2⟩⟩
def Es.below(h:Es W X pb o un ul ui mu cu Au cur cells)(a:Below W.heap.size W W'):Es W' X pb o un ul ui mu cu Au cur cells:=h.turn (Turn.below X a)
def Es.set(h:Es W X pb o un ul ui mu cu Au cur cells){g:Nat}(a:pb≠g)(b:∀ k,(Value.slice Au mu cu).ownBlock=some k->k≠g)(i:Nat)(u:Value):Es (W.setCell ⟨g,i,none⟩ u) X pb o un ul ui mu cu Au cur cells :=
 ⟨h.hb.far (p:=⟨g,i,none⟩) a u,h.c0,h.c1,h.c2,h.c3,h.c4,h.nb,Bo h.row λk c=>CX _ _ _ _ (b k c),h.rx⟩
def Es.ss(h:Es W X pb o un ul ui mu cu Au cur cells):SS W Au mu cells:=SS.Ed h.row
def Es.at5(h:Es W X pb o un ul ui mu cu Au cur cells):W.cell? ⟨pb,o,none⟩=some (.int .i64 un)/\W.cell? ⟨pb,o+1,none⟩=some (.int .i64 2)/\W.cell? ⟨pb,o+2,none⟩=some (.int .i64 ul)/\W.cell? ⟨pb,o+3,none⟩=some (.slice Au mu cu)/\W.cell? ⟨pb,o+4,none⟩=some (.int .i64 ui) :=
 ⟨(h.hb.cell _).trans h.c0,(h.hb.cell _).trans h.c1,(h.hb.cell _).trans h.c2,(h.hb.cell _).trans h.c3,(h.hb.cell _).trans h.c4⟩
end
structure RY (W:World) (X:List (Option Nat)) (b7 b8 n1 n2 kd l1 l2 m1 m2 c1 c2:Nat) (A1 A2:Option Addr) (s1 s2:List ByteArray):Prop where
 z7:Has W b7 116 #[.int .i64 n1,.int .i64 kd,.int .i64 l1,.slice A1 m1 c1]
 z8:Has W b8 116 #[.int .i64 n2,.int .i64 kd,.int .i64 l2,.slice A2 m2 c2]
 o7:some b7∉X
 o8:some b8∉X
 d:b7<b8
 r1:SS W A1 m1 s1
 r2:SS W A2 m2 s2
 x1:∀ a,A1=some a->some a.block∉X/\a.block<W.heap.size/\a.block≠b7/\a.block≠b8
 x2:∀ a,A2=some a->some a.block∉X/\a.block<W.heap.size/\a.block≠b7/\a.block≠b8
def SS.stay{w w':World}{A:Option Addr}{n:Nat}{l:List ByteArray}(h:SS w A n l)(d:w.heap.size<=w'.heap.size)(f:∀ a,A=some a->w'.heap[a.block]? = w.heap[a.block]?):SS w' A n l :=
 ⟨h.1,λg=>by
   obtain⟨b,off,c,j,k⟩:=h.2 g;refine⟨b,off,c,DD j d,λi v m=>?_⟩;have e:=f _ c;rw[<- k i v m];unfold World.cell?
   simp only[e]⟩
section
variable {W W':World} {X X':List (Option Nat)} {b7 b8 n1 n2 kd l1 l2 m1 m2 c1 c2:Nat} {A1 A2:Option Addr} {s1 s2:List ByteArray}
def RY.turn(h:RY W X b7 b8 n1 n2 kd l1 l2 m1 m2 c1 c2 A1 A2 s1 s2)(b:Turn X X' W W'):RY W' X' b7 b8 n1 n2 kd l1 l2 m1 m2 c1 c2 A1 A2 s1 s2 :=
 ⟨b.has h.z7 h.o7,b.has h.z8 h.o8,b.out h.o7 h.z7.lt,b.out h.o8 h.z8.lt,h.d,h.r1.stay b.size λa e=>b.block _ (h.x1 a e).2.1 (h.x1 a e).1,h.r2.stay b.size λa e=>b.block _ (h.x2 a e).2.1 (h.x2 a e).1,
   λa e=>⟨b.out (h.x1 a e).1 (h.x1 a e).2.1,DD (h.x1 a e).2.1 b.size,(h.x1 a e).2.2⟩,λa e=>⟨b.out (h.x2 a e).1 (h.x2 a e).2.1,DD (h.x2 a e).2.1 b.size,(h.x2 a e).2.2⟩⟩
end
def Sl{W:World}{g b:Nat}{t:TypeId}{cs:Array Value}(h:Has W g t cs)(a:g≠b)(c d e f:Value):Has ((((W.setCell ⟨b,0,none⟩ c).setCell ⟨b,1,none⟩ d).setCell ⟨b,2,none⟩ e).setCell ⟨b,3,none⟩ f) g t cs :=
 (((h.far (p:=⟨b,0,none⟩) a c).far (p:=⟨b,1,none⟩) a d).far (p:=⟨b,2,none⟩) a e).far (p:=⟨b,3,none⟩) a f
def aF{W:World}{b:Nat}{t:TypeId}{f g i j:Value}(h:Has W b t #[f,g,i,j])(a c d e:Value):Has ((((W.setCell ⟨b,0,none⟩ a).setCell ⟨b,1,none⟩ c).setCell ⟨b,2,none⟩ d).setCell ⟨b,3,none⟩ e) b t #[a,c,d,e] :=
 (((h.set 0 a).set 1 c).set 2 d).set 3 e
def Es.FT{W:World}{X:List (Option Nat)}{pb o un ul ui mu cu b:Nat}{Au:Option Addr}{cur:Array Value}{cells:List ByteArray}(h:Es W X pb o un ul ui mu cu Au cur cells)(a:pb≠b)(c:∀ k,(Value.slice Au mu cu).ownBlock=some k->k≠b)(d e f g:Value):Es ((((W.setCell ⟨b,0,none⟩ d).setCell ⟨b,1,none⟩ e).setCell ⟨b,2,none⟩ f).setCell ⟨b,3,none⟩ g) X pb o un ul ui mu cu Au cur cells :=
 (((h.set a c 0 d).set a c 1 e).set a c 2 f).set a c 3 g
def SS.FT{W:World}{b n:Nat}{A:Option Addr}{l:List ByteArray}(h:SS W A n l)(d:∀ a,A=some a->a.block≠b)(f g i j:Value):SS ((((W.setCell ⟨b,0,none⟩ f).setCell ⟨b,1,none⟩ g).setCell ⟨b,2,none⟩ i).setCell ⟨b,3,none⟩ j) A n l :=
 h.stay (by simp) λa e=>by
  have c:=d a e;rw[CX _ _ _ _ c,CX _ _ _ _ c,CX _ _ _ _ c,CX _ _ _ _ c]
def SS.set{W:World}{b n:Nat}{A:Option Addr}{l:List ByteArray}(h:SS W A n l)(c:∀ a,A=some a->a.block≠b)(i:Nat)(u:Value):SS (W.setCell ⟨b,i,none⟩ u) A n l :=
 h.stay (by simp) λa e=>CX _ _ _ _ (c a e)
def SS.src{W:World}{A:Option Addr}{n c:Nat}{l:List ByteArray}(h:SS W A n l):Src Tryz.prog 1 44 (.slice A n c) n (strs l) W:=by
 cases A with
 | none =>
   obtain rfl:n=0:=by
    cases n with
    | zero=>rfl
    | succ n=>obtain⟨b,off,e,_⟩:=h.2 (Nat.succ_pos _);cases e
   have:l=[]:=TE.1 h.1;subst this;exact Src.ofNil _ QT c
 | some a =>
   refine IW _ QT a n c (strs l) (by rw[Gg,h.1];omega) (λj u d=>?_) (gZ l)
   have k:j<n:=by have:=(C9.1 d).1;rw[Gg,h.1]at this;exact this
   obtain⟨b,off,e,_,g⟩:=h.2 (by omega)
   cases e
   rw[addr_add];unfold strs at d;rw[GH]at d
   cases f:l[j]? with
   | none=>rw[f]at d;cases d
   | some v=>rw[f]at d;have i:Value.string v=u:=CV d;rw[<- i];exact g j v f
def RY.set{W:World}{X:List (Option Nat)}{b7 b8 n1 n2 kd l1 l2 m1 m2 c1 c2 g:Nat}{A1 A2:Option Addr}{s1 s2:List ByteArray}(h:RY W X b7 b8 n1 n2 kd l1 l2 m1 m2 c1 c2 A1 A2 s1 s2)(b:b7≠g)(c:b8≠g)(f:∀ a,A1=some a->a.block≠g)(j:∀ a,A2=some a->a.block≠g)(i:Nat)(u:Value):RY (W.setCell ⟨g,i,none⟩ u) X b7 b8 n1 n2 kd l1 l2 m1 m2 c1 c2 A1 A2 s1 s2 :=
 ⟨h.z7.far (p:=⟨g,i,none⟩) b u,h.z8.far (p:=⟨g,i,none⟩) c u,h.o7,h.o8,h.d,h.r1.set f i u,h.r2.set j i u,λa e=>by simpa using h.x1 a e,λa e=>by simpa using h.x2 a e⟩
structure Jx (w0 W:World) (X0 X:List (Option Nat)) (z p tb root c k pb o un ul ui mu cu b7 b8 n1 n2 kd l1 l2 m1 m2 c1 c2:Nat) (Au A1 A2:Option Addr) (cur:Array Value) (cells s1 s2:List ByteArray) (S S0:St):Prop where
 pt:PT W X p S S0 c k
 tm:TM W X tb p root
 up:Es W X pb o un ul ui mu cu Au cur cells
 tu:Turn X0 X w0 W
 jn:RY W X b7 b8 n1 n2 kd l1 l2 m1 m2 c1 c2 A1 A2 s1 s2
 zt:tb<z
 zp:pb<z
 z8:b8<z
 zu:∀ g,(Value.slice Au mu cu).ownBlock=some g->g<z
 zr:∀ g,(Value.slice Au mu cu).ownBlock=some g->g<b7
 z1:∀ a,A1=some a->a.block<z
 z2:∀ a,A2=some a->a.block<z
 z0:w0.heap.size<=z
 zz:z<=W.heap.size
section
variable {w0 W W':World} {X0 X X':List (Option Nat)} {z p tb root c k c' k' pb o un ul ui mu cu b7 b8 n1 n2 kd l1 l2 m1 m2 c1 c2:Nat} {Au A1 A2:Option Addr} {cur:Array Value} {cells s1 s2:List ByteArray} {S S' S0:St}
def Jx.turn(h:Jx w0 W X0 X z p tb root c k pb o un ul ui mu cu b7 b8 n1 n2 kd l1 l2 m1 m2 c1 c2 Au A1 A2 cur cells s1 s2 S S0)(a:Turn X X' W W')(b:PT W' X' p S' S0 c' k'):Jx w0 W' X0 X' z p tb root c' k' pb o un ul ui mu cu b7 b8 n1 n2 kd l1 l2 m1 m2 c1 c2 Au A1 A2 cur cells s1 s2 S' S0 :=
 ⟨b,h.tm.turn a,h.up.turn a,h.tu.trans a,h.jn.turn a,h.zt,h.zp,h.z8,h.zu,h.zr,h.z1,h.z2,h.z0,BN h.zz a.size⟩
def Jx.below(h:Jx w0 W X0 X z p tb root c k pb o un ul ui mu cu b7 b8 n1 n2 kd l1 l2 m1 m2 c1 c2 Au A1 A2 cur cells s1 s2 S S0)(a:Below W.heap.size W W'):Jx w0 W' X0 X z p tb root c k pb o un ul ui mu cu b7 b8 n1 n2 kd l1 l2 m1 m2 c1 c2 Au A1 A2 cur cells s1 s2 S S0 :=
 h.turn (Turn.below X a) (h.pt.below a)
def Jx.set(h:Jx w0 W X0 X z p tb root c k pb o un ul ui mu cu b7 b8 n1 n2 kd l1 l2 m1 m2 c1 c2 Au A1 A2 cur cells s1 s2 S S0){g:Nat}(b:z<=g)(f:some g∉X)(i:Nat)(v:Value):Jx w0 (W.setCell ⟨g,i,none⟩ v) X0 X z p tb root c k pb o un ul ui mu cu b7 b8 n1 n2 kd l1 l2 m1 m2 c1 c2 Au A1 A2 cur cells s1 s2 S S0 :=
 ⟨h.pt.set f i v,h.tm.set (by have:=h.zt;omega) i v,h.up.set (by have:=h.zp;omega) (λq j=>by have:=h.zu q j;omega) i v,h.tu.Dz (BN h.z0 b) i v,
   h.jn.set (by have:=h.jn.d;have:=h.z8;omega) (by have:=h.z8;omega) (λa e=>by have:=h.z1 a e;omega) (λa e=>by have:=h.z2 a e;omega) i v,h.zt,h.zp,h.z8,h.zu,h.zr,h.z1,h.z2,h.z0,by simpa using h.zz⟩
def Jx.grown(h:Jx w0 W X0 X z p tb root c k pb o un ul ui mu cu b7 b8 n1 n2 kd l1 l2 m1 m2 c1 c2 Au A1 A2 cur cells s1 s2 S S0){r:Option Nat}(b:W.grownBy W' r)(f:∀ g,r=some g->z<=g/\some g∉X):Jx w0 W' X0 X z p tb root c k pb o un ul ui mu cu b7 b8 n1 n2 kd l1 l2 m1 m2 c1 c2 Au A1 A2 cur cells s1 s2 S S0:=by
 have q:∀ g,g<W.heap.size->g<z->W'.heap[g]? = W.heap[g]? := λg i l=>b.block g i (λe=>by have:=(f g e.symm).1;omega);have j:=h.zz
 refine ⟨h.pt.grown b (λg e=>(f g e).2),⟨(q _ h.tm.has.lt h.zt).trans h.tm.has,h.tm.out⟩,⟨(q _ h.up.hb.lt h.zp).trans h.up.hb,h.up.c0,h.up.c1,h.up.c2,h.up.c3,h.up.c4,h.up.nb,Bo h.up.row λg e=>q g (h.up.row.lt g e).2 (h.zu g e),h.up.rx⟩,h.tu.Yc b (λg e=>BN h.z0 (f g e).1),
  ⟨(q _ h.jn.z7.lt (Nat.lt_trans h.jn.d h.z8)).trans h.jn.z7,(q _ h.jn.z8.lt h.z8).trans h.jn.z8,h.jn.o7,h.jn.o8,h.jn.d,h.jn.r1.stay b.size λa e=>q _ (h.jn.x1 a e).2.1 (h.z1 a e),h.jn.r2.stay b.size λa e=>q _ (h.jn.x2 a e).2.1 (h.z2 a e),λa e=>⟨(h.jn.x1 a e).1,DD (h.jn.x1 a e).2.1 b.size,(h.jn.x1 a e).2.2⟩,λa e=>⟨(h.jn.x2 a e).1,DD (h.jn.x2 a e).2.1 b.size,(h.jn.x2 a e).2.2⟩⟩,h.zt,h.zp,h.z8,h.zu,h.zr,h.z1,h.z2,h.z0,BN j b.size⟩
end
structure Nw (W:World) (X:List (Option Nat)) (z b n kd l m c:Nat) (A:Option Addr) (bs:List ByteArray):Prop where
 zb:z<=b
 hz:Has W b 116 #[.int .i64 n,.int .i64 kd,.int .i64 l,.slice A m c]
 nx:some b∉X
 row:W.ownsRow z 9 1 (.slice A m c) m (strs bs)
 rx:∀ g,(Value.slice A m c).ownBlock=some g->some g∉X/\g≠b
section
variable {W W':World} {X X':List (Option Nat)} {z b n kd l m c:Nat} {A:Option Addr} {bs:List ByteArray}
def Nw.turn(h:Nw W X z b n kd l m c A bs)(d:Turn X X' W W'):Nw W' X' z b n kd l m c A bs :=
 ⟨h.zb,d.has h.hz h.nx,d.out h.nx h.hz.lt,Bo h.row λg a=>d.block g (h.row.lt g a).2 (h.rx g a).1,λg a=>⟨d.out (h.rx g a).1 (h.row.lt g a).2,(h.rx g a).2⟩⟩
def Nw.below(h:Nw W X z b n kd l m c A bs)(a:Below W.heap.size W W'):Nw W' X z b n kd l m c A bs:=h.turn (Turn.below X a)
def Nw.far(h:Nw W X z b n kd l m c A bs){g:Nat}(a:b≠g)(d:∀ k,(Value.slice A m c).ownBlock=some k->k≠g)(i:Nat)(u:Value):Nw (W.setCell ⟨g,i,none⟩ u) X z b n kd l m c A bs :=
 ⟨h.zb,h.hz.far (p:=⟨g,i,none⟩) a u,h.nx,Bo h.row λk e=>CX _ _ _ _ (d k e),h.rx⟩
def Nw.link(h:Nw W X z b n kd l m c A bs)(a:Nat):Nw (W.setCell ⟨b,2,none⟩ (.int .i64 a)) X z b n kd a m c A bs :=
 ⟨h.zb,h.hz.set 2 _,h.nx,Bo h.row λk d=>CX _ _ _ _ (h.rx k d).2,h.rx⟩
def Nw.num(h:Nw W X z b n kd l m c A bs)(a:Nat):Nw (W.setCell ⟨b,0,none⟩ (.int .i64 a)) X z b a kd l m c A bs :=
 ⟨h.zb,h.hz.set 0 _,h.nx,Bo h.row λk d=>CX _ _ _ _ (h.rx k d).2,h.rx⟩
def Nw.ss(h:Nw W X z b n kd l m c A bs):SS W A m bs:=SS.Ed h.row
end
def SI(w:World)(X:List (Option Nat))(p pb o un ul ui:Nat)(vA:Value)(cur:Array Value)(S' S0:St)(c' k':Nat)(cells':List ByteArray)(c:Ending)(w':World):Prop :=
 c = .returned (.tuple #[])/\∃ X' a b,PT w' X' p S' S0 c' k'/\Turn (some pb :: vA.ownBlock :: X) (some pb :: (Value.slice a cells'.length b).ownBlock :: X') w w' /\
  Es w' X' pb o un ul ui cells'.length b a (cur.setIfInBounds (o+3) (.slice a cells'.length b)) cells'/\∀ g,(Value.slice a cells'.length b).ownBlock=some g->vA.ownBlock=some g\/w.heap.size<=g
def CD1{w:World}{d n c g:Nat}{xs:List Value}{b:TypeId}(h:w.ownsRow d b 1 (.slice (some ⟨g,0,none⟩) n c) n xs)(u:Nat)(x:Value):(w.setCell ⟨g,u,none⟩ x).ownsRow d b 1 (.slice (some ⟨g,0,none⟩) n c) n (xs.set u x):=by
 refine⟨by rw[MX];exact h.1, ?_⟩
 rcases h.2 with⟨q,_⟩ |⟨g',cap,cur,e,f,i,j,k,l,m⟩
 ·cases q
 ·have a:g=g'/\c=cap:=by
   injection e with a _ e3
   injection a with a
   injection a with a
   exact⟨a,e3⟩
  obtain⟨rfl,rfl⟩:=a;have H:Has w g b cur:=i;refine .inr ⟨g,c,cur.setIfInBounds u x,rfl,f,H.set u x,j,k,by simpa using l, ?_⟩;rw[YO,mW,m]
def WA{w:World}{b n c m:Nat}{e:TypeId}{A:Option Addr}{xs:List Value}(h:w.ownsRow b e 1 (.slice A m c) n xs):m=n/\n<=c/\c<=9223372036854775807:=by
 rcases h.2 with⟨q,rfl⟩ |⟨g,cap,cur,a,_,_,d,f,_⟩
 ·injection q with _ q1 q2
  exact⟨q1,BR _,by omega⟩
 ·injection a with _ q1 q2
  subst q2;exact⟨q1,d,by unfold maxLen at f;omega⟩
def BO1{w:World}{a b n:Nat}{e:TypeId}{v:Value}{xs:List Value}(h:w.ownsRow a e 1 v n xs)(d:∀ g,v.ownBlock=some g->b<=g):w.ownsRow b e 1 v n xs:=by
 refine⟨h.1, ?_⟩
 rcases h.2 with q |⟨g,cap,cur,c,_,q⟩
 ·exact .inl q
 ·exact .inr ⟨g,cap,cur,c,d g (by rw[c];rfl),q⟩
def Turn.loc{w0 w w':World}{X0 X Y d X':List (Option Nat)}(h:Turn X0 X w0 w)(k:Turn Y d w w')(e:∀ g,some g∈Y->some g∈X\/w0.heap.size<=g)(j:∀ g,some g∈X'->some g∈d):Turn X0 X' w0 w':=by
 refine⟨k.os.trans h.os,k.tape.trans h.tape,k.output.trans h.output,BN h.size k.size,λi c f=>?_,λi c=>?_⟩
 ·refine (k.block i (DD c h.size) λl=>?_).trans (h.block i c f)
  rcases e i l with a | a
  ·rcases h.new i a with b | b
   ·exact f b
   ·omega
  ·omega
 ·rcases k.new i (j i c) with a | a
  ·rcases e i a with b | b
   ·exact h.new i b
   ·exact .inr b
  ·exact .inr (BN h.size a)
def ZF{X X':List (Option Nat)}{w W W':World}{pb:Nat}{vA v':Value}(h:Turn X X' w W)(c:W.grownBy W' vA.ownBlock)(f:∀ g,v'.ownBlock=some g->vA.ownBlock=some g\/W.heap.size<=g)(i:Nat)(u:Value):Turn (some pb :: vA.ownBlock :: X) (some pb :: v'.ownBlock :: X') w (W'.setCell ⟨pb,i,none⟩ u):=by
 refine⟨c.os.trans h.os,c.tape.trans h.tape,c.output.trans h.output,by have:=h.size;have:=c.size;simp;omega,λk a d=>?_,λk a=>?_⟩
 ·have n1:k≠pb:=λe=>d (by rw [e];exact AZ);have n2:some k≠vA.ownBlock:=λe=>d (by rw[e];exact BF _ AZ);exact(CX _ _ _ _ n1).trans ((c.block k (DD a h.size) n2).trans (h.block k a λj=>d (BF _ (BF _ j))))
 ·rcases BI.1 a with e | a
  ·exact .inl (by rw[e];exact AZ)
  ·rcases BI.1 a with e | a
   ·rcases f k e.symm with b | b
    ·exact .inl (by rw[<- b];exact BF _ AZ)
    ·exact .inr (BN h.size b)
   ·rcases h.new k a with b | b
    ·exact .inl (BF _ (BF _ b))
    ·exact .inr b
def pU{cur:Array Value}{i:Nat}{v:Value}(h:cur[i]? = some v):cur.setIfInBounds i v=cur:=by
 refine Array.ext_getElem? λj=>?_;rw[NF];by_cases e:i=j
 ·subst e;rw[AC rfl,h,AC];exact(LK.1 h).1
 ·rw[AO e]
def IV1{X X':List (Option Nat)}{w W W':World}{pb:Nat}{vA:Value}(h:Turn X X' w W)(b:W.grownBy W' vA.ownBlock):Turn (some pb :: vA.ownBlock :: X) (some pb :: vA.ownBlock :: X') w W':=by
 refine⟨b.os.trans h.os,b.tape.trans h.tape,b.output.trans h.output,BN h.size b.size,λk a d=>?_,λk a=>?_⟩
 ·have n2:some k≠vA.ownBlock:=λe=>d (by rw [e];exact BF _ AZ);exact(b.block k (DD a h.size) n2).trans (h.block k a λf=>d (BF _ (BF _ f)))
 ·rcases BI.1 a with e | a
  ·exact .inl (by rw[e];exact AZ)
  ·rcases BI.1 a with e | a
   ·exact .inl (by rw[e];exact BF _ AZ)
   ·rcases h.new k a with c | c
    ·exact .inl (BF _ (BF _ c))
    ·exact .inr c
def Nw.app {W W':World} {X:List (Option Nat)} {z b n kd l m c d c':Nat} {A A':Option Addr} {xs ys:List ByteArray} (h:Nw W X z b n kd l m c A xs) (k:∀ g,some g∈X->g<W.heap.size) (f:d=(xs++ys).length) (o:W'.ownsRow z 9 1 (.slice A' d c') d (strs xs++strs ys)) (a:W.grownBy W' (Value.slice A m c).ownBlock)
 (j:(Value.slice A' d c').ownBlock=(Value.slice A m c).ownBlock\/(Value.slice A' d c').ownBlock=some W.heap.size):Nw (W'.setCell ⟨b,3,none⟩ (.slice A' (xs++ys).length c')) X z b n kd l (xs++ys).length c' A' (xs++ys):=by
 subst f
 have p:strs (xs++ys)=strs xs++strs ys:=by unfold strs;exact D9
 have i:∀ g,(Value.slice A' (xs++ys).length c').ownBlock=some g->some g∉X/\g≠b:=λg a=>by
  rcases j with e | e
  ·exact h.rx g (by rw[<- e];exact a)
  ·have r:g=W.heap.size:=CV (a.symm.trans e);exact⟨λf=>by have:=k g f;omega,by have:=h.hz.lt;omega⟩
 have q:Has W' b 116 #[.int .i64 n,.int .i64 kd,.int .i64 l,.slice A m c]:=(a.block b h.hz.lt (λe=>(h.rx b e.symm).2 rfl)).trans h.hz;exact⟨h.zb,q.set 3 _,h.nx,by rw[p];exact Bo o (λg a=>CX _ _ _ _ (i g a).2),i⟩
def Nw.YU{W W':World}{X:List (Option Nat)}{z b n kd l m c:Nat}{A:Option Addr}{xs:List ByteArray}(h:Nw W X z b n kd l m c A xs)(a:W.grownBy W' (Value.slice A m c).ownBlock):Has W' b 116 #[.int .i64 n,.int .i64 kd,.int .i64 l,.slice A m c]:=(a.block b h.hz.lt (λe=>(h.rx b e.symm).2 rfl)).trans h.hz
def NA1{w:World}{b n c g:Nat}{a:TypeId}{xs:List Value}(h:w.ownsRow b a 1 (.slice (some ⟨g,0,none⟩) n c) n xs):∃ cur,Has w g a cur:=by
 rcases h.2 with⟨q,_⟩ |⟨g',cap,cur,d,_,e,_⟩
 ·cases q
 ·injection d with e1 _ _
  injection e1 with e1
  injection e1 with e1
  subst e1;exact⟨cur,e⟩
def rO(l:List ByteArray)(u:Nat)(s:ByteArray):(strs l).set u (.string s)=strs (l.set u s):=by
 unfold strs;rw[List.map_set]
def Nw.mk2{W:World}{X:List (Option Nat)}{z b n kd l m c:Nat}{A:Option Addr}{bs:List ByteArray}{B:Nat}(e:z<=b)(f:some b∉X)(h:Has W b 116 #[.int .i64 n,.int .i64 kd,.int .i64 l,.slice A m c])(a:W.ownsRow B 9 1 (.slice A m c) m (strs bs))(i:z<=B)(j:∀ g,some g∈X->g<B)(k:∀ g,(Value.slice A m c).ownBlock=some g->g≠b):Nw W X z b n kd l m c A bs :=
 ⟨e,h,f,own_base a i,λg d=>⟨λo=>by have:=j g o;have:=(a.lt g d).1;omega,k g d⟩⟩
def Ih(l:List It):5*l.length<=Ak l:=by
 induction l with
 | nil=>exact AY _
 | cons i l a=>rw[Dn,DF];unfold CO;omega
def getD_drop{l:List It}{k:Nat}{y:It}{Y:List It}(h:l.drop k=y :: Y):l.getD k ⟨[],[]⟩=y/\k<l.length/\Y=l.drop (k+1):=by
 have a:k<l.length:=by
  refine FC λb=>?_
  rw[IY (by omega)]at h;cases h
 rw[<- List.getElem_cons_drop (h:=a)]at h
 injection h with h1 h2
 exact⟨by rw[LH,DK a];exact h1,a,h2.symm⟩
def Tq {w:World} {n l m c:Nat} {A:Option Addr} {a X Y:List It} {y:It} (tv:Value) (h:SS w A m (a.map Af)) (t:IU a) (u:1012<Ak a) (o:Ak a<=1404) (p:∀ i∈a,CO i<=244) (q:m<=c) (v:c<=9223372036854775807)
 (d:a.take (F8 true a)=X) (b:a.drop (F8 true a)=y :: Y) :
 Calls Tryz.prog 143 #[tv,.agg #[.int .i64 n,.int .i64 1,.int .i64 l,.slice A m c]] w (WM w n 1 l l (AQ y.k) (X.map Af) ((y :: Y).map Af)):=by
 have E:a.length=m:=by have:=h.1;simpa using this
 have F:=Ih a;obtain⟨k,G,D,_⟩:=iQ u o p;have x:F8 true a=cutAt (Ak a / 2) a:=rfl;rw[x]at d b;obtain⟨z,H,I⟩:=getD_drop b;refine(HJ0 tv h t (by omega) q v (by omega) (by omega) (by omega)).mono ?_;rintro e w' ⟨B,C,f,g,j,r,s⟩;rw[d]at g;rw[b]at j;rw[z]at f
 have l1:(X.map Af).length=cutAt (Ak a / 2) a:=by rw[BZ,<- d,CU];omega
 have l2:((y :: Y).map Af).length=m-cutAt (Ak a / 2) a:=by rw[BZ,<- b,DJ];omega
 exact⟨B,C,f,by rw[l1];exact g,by rw[l2];exact j,r,s⟩
def Qv {w:World} {n l m c:Nat} {A:Option Addr} {a X Y:List It} {y:It} (tv:Value) (h:SS w A m ((a.drop 1).map Af)) (E:IU a) (d:1012<Ak (a.drop 1)) (s:Ak (a.drop 1)<=1404) (t:∀ i∈a.drop 1,CO i<=244) (x:m<=c) (F:c<=9223372036854775807) (G:∀ i∈a,i.r.length=4)
 (f:a.take (F8 false a)=X) (g:a.drop (F8 false a)=y :: Y) :
 Calls Tryz.prog 143 #[tv,.agg #[.int .i64 n,.int .i64 2,.int .i64 l,.slice A m c]] w (WM w n 2 l (Gi y.r) (AQ y.k) ((X.drop 1).map Af) (Y.map Af)):=by
 have H:(a.drop 1).length=m:=by have:=h.1;simpa using this
 have I:=Ih (a.drop 1);obtain⟨k,j,z,_,_,J,_⟩:=iQ d s t;have K:F8 false a=cutAt (Ak (a.drop 1) / 2) (a.drop 1):=rfl;rw[K,j]at f g
 have B:k+1<(a.drop 1).length:=by
  refine FC λR=>?_;rw[IY (by omega),Hf]at J;omega
 cases a with
 | nil=>simp[Ak]at d
 | cons L cs =>
   have M:(L :: cs).drop 1=cs:=rfl;rw[M]at h d s t H I j z B;rw[DY]at f;rw[IC]at g;obtain⟨N,S,u⟩:=getD_drop g;refine(EG0 tv h (λi o=>E i (BF _ o)) (by omega) x F (by omega) (by omega) (by omega) (λi o=>G i (BF _ o))).mono ?_;rintro e w' ⟨O,P,b,p,q,C,D⟩;rw[j]at b p q;have Q:k+1-1=k:=rfl;rw[Q]at b p;rw[N]at b;rw[<- u]at q
   have v:X.drop 1=cs.take k:=by rw[<- f];rfl
   have l1:((X.drop 1).map Af).length=k:=by rw[BZ,v,CU];omega
   have l2:(Y.map Af).length=m-(k+1):=by rw[BZ,u,DJ];omega
   exact⟨O,P,b,by rw[l1,v];exact p,by rw[l2];exact q,C,D⟩
attribute [local go_sem] Ea Bz Bq Act.put
def gI(w:World)(X:List (Option Nat))(tb p root c k pb o un ul ui mu cu u n1 n2 kd l1 l2:Nat)(Au:Option Addr)(cur:Array Value)(cells s1 s2:List ByteArray)(S S0:St)(a b d:Value)(wx:World):Prop :=
 a = .int .i64 ((u:Int)+1)/\∃ b7 b8 X' A1 A2 c1 c2 z,b = .pointer (some ⟨b7,0,none⟩)/\d = .pointer (some ⟨b8,0,none⟩)/\z=wx.heap.size/\Jx w wx X X' z p tb root c k pb o un ul ui mu cu b7 b8 n1 n2 kd l1 l2 s1.length s2.length c1 c2 Au A1 A2 cur cells s1 s2 S S0
def ZA (z pb o a u mu cu b8 l2 n c:Nat) (A:Option Addr) (d e F b:ByteArray):Nat->Value->World->Prop
 | 0,v,_=>v = .pointer (some ⟨z,1,none⟩)
 | 1,v,_=>v = .pointer (some ⟨z,3,none⟩)
 | 2,v,_=>v = .slice A n c
 | 3,v,_=>v = .pointer (some ⟨pb,o,none⟩)
 | 4,v,_=>v = .pointer (some ⟨pb,o,none⟩)
 | 5,v,_=>v = .pointer (some ⟨pb,o,none⟩)
 | 6,v,_=>v = .pointer (some ⟨pb,o+1,none⟩)
 | 7,v,_=>v = .pointer (some ⟨pb,o+3,none⟩)
 | 8,v,_=>v = .slice (some ⟨a,0,none⟩) mu cu
 | 9,v,_=>v = .int .i64 ((u:Int)+1)
 | 10,v,_=>v = .int .i64 u
 | 11,v,_=>v = .pointer (some ⟨a,u,none⟩)
 | 12,v,_=>v = .string d
 | 13,v,_=>v = .string e
 | 14,v,_=>v = .pointer (some ⟨b8,1,none⟩)
 | 15,v,_=>v = .pointer (some ⟨b8,2,none⟩)
 | 16,v,_=>v = .int .i64 l2
 | 17,v,_=>v = .string F
 | 18,v,_=>v = .string b
 | 19,v,w=>∃ g,v = .slice (some ⟨g,0,none⟩) 1 1/\Has w g 9 #[.string b]
 | _,_,_=>True
def GM0 (z pb o a u mu cu b8 l2 n c:Nat) (A:Option Addr) (b d F f:ByteArray):∀ j v (w w':World),Below w.heap.size w w'->ZA z pb o a u mu cu b8 l2 n c A b d F f j v w->ZA z pb o a u mu cu b8 l2 n c A b d F f j v w'
 | 0,_,_,_,_,h=>h
 | 1,_,_,_,_,h=>h
 | 2,_,_,_,_,h=>h
 | 3,_,_,_,_,h=>h
 | 4,_,_,_,_,h=>h
 | 5,_,_,_,_,h=>h
 | 6,_,_,_,_,h=>h
 | 7,_,_,_,_,h=>h
 | 8,_,_,_,_,h=>h
 | 9,_,_,_,_,h=>h
 | 10,_,_,_,_,h=>h
 | 11,_,_,_,_,h=>h
 | 12,_,_,_,_,h=>h
 | 13,_,_,_,_,h=>h
 | 14,_,_,_,_,h=>h
 | 15,_,_,_,_,h=>h
 | 16,_,_,_,_,h=>h
 | 17,_,_,_,_,h=>h
 | 18,_,_,_,_,h=>h
 | 19,_,_,_,hb,⟨g,e,h⟩=>⟨g,e,h.Ai hb⟩
 | _+20,_,_,_,_,_=>trivial
def at8 {W:World} {X:List (Option Nat)} {g pb o un ul ui mu cu:Nat} {Au:Option Addr} {cur:Array Value} {cells:List ByteArray} {t:TypeId} {a b c d:Value} (H:Has W g t #[a,b,c,d]) (Q:Es W X pb o un ul ui mu cu Au cur cells) :
 W.cell? ⟨g,0,none⟩=some a/\W.cell? ⟨g,1,none⟩=some b/\W.cell? ⟨g,2,none⟩=some c/\W.cell? ⟨g,3,none⟩=some d/\W.cell? ⟨pb,o,none⟩=some (.int .i64 un)/\W.cell? ⟨pb,o+1,none⟩=some (.int .i64 2)/\W.cell? ⟨pb,o+2,none⟩=some (.int .i64 ul)/\W.cell? ⟨pb,o+3,none⟩=some (.slice Au mu cu) :=
 ⟨H.cell 0,H.cell 1,H.cell 2,H.cell 3,Q.at5.1,Q.at5.2.1,Q.at5.2.2.1,Q.at5.2.2.2.1⟩
def ZL:Nat->Code->Code
 | 0,c=>c
 | n+1,.seq _ b=>ZL n b
 | _+1,c=>c
def xB:Code->Code
 | .seq a _=>a
 | c=>c
def Yk {w d:World} {X:List (Option Nat)} {tb p root c k pb o un u ui mu cu n0 l0 c0 n1 l1 n2 l2 kd ul:Nat} {iv:Int} {Au l:Option Addr} {cur:Array Value} {S S0:St} {I U V:List It} {ac af:It} {N s1 s2 cells:List ByteArray} {J K':Act->World->Prop} {Q0:Exit->Act->World->Prop} {u3 u4 u9 aw ax ay es et eu ev ew ex ey ez e0 e1 e2 e3 e4 e5 e6 e7 e8 e9 fa fb fc fd fe ff fg fh fi fj fk fl fm fn fo fp fq fs ft fu fv fw fx fy fz f0 f1 f2 f3 f4 f5 f6 f9 ga gb gc gd ge gg gh gi gj gk gl gm gn go gp gq gr gs gt gu gv gw gx gy g5 g6 g7 g8 g9 ha hc hd he hf hh a7 a8 a9 ba bb bc bd be bf bg bh bi bj bk bl bm bn bo bp bq br bt bu bv bw bx bz b0 b1 b2 b3 b4 b5 b6 b7 b8 b9 ca cb cc cd ce cf cg ch ci cj ck cl cm cn co cp cq cr cs ct cv cw:Value}
 (HP:Hid (PT w X p S S0 c k)) (O:Hid (TM w X tb p root)) (ad:Hid (c+10<=60000/\k<=800000000)) (L:Hid (Es w X pb o un ul ui mu cu Au cur cells)) (az:kd=1\/kd=2) (hj:Hid ((ui=u+1/\n2=n0/\l2=l0/\s2=N/\S.G n1=(kd,l1,s1))\/(ui=0/\u=0/\n1=n0/\l1=l0/\s1=N/\S.G n2=(kd,l2,s2))))
 (R:Hid ((0<n1/\n1<S.q/\n1∉S.fr)/\(0<n2/\n2<S.q/\n2∉S.fr)/\n1≠n2)) (ag:Hid (mu<=1000/\o<=1000/\o+3<cur.size/\u<=1000)) (ae:Hid (GY S)) (x:Hid (I=U++ac :: af :: V/\U.length=u/\IU I/\ac.r=Ba n1/\af.r=Ba n2)) (a4:Hid (Gi (I.headD ⟨[],[]⟩).r=ul)) (a5:Hid ((I.drop 1).map Af=cells)) (a6:Hid (iv=(ui:Int))) (K:Hid (SS w l N.length N/\∀ a,l=some a->some a.block∉X/\a.block<w.heap.size))
 (B:Hid (Has d w.heap.size 116 #[.int .i64 n0,.int .i64 kd,.int .i64 l0,.slice l N.length c0])) (C:Hid (Has d (w.heap.size+1) 116 #[.int .i64 0,.int .i64 0,.int .i64 0,.slice none 0 0])) (v:Hid (Has d (w.heap.size+1+1) 116 #[.int .i64 0,.int .i64 0,.int .i64 0,.slice none 0 0])) (A:Hid (Below w.heap.size w d))
 (hJ:∀(a':Act) (w':World),(∃ v6 v7 v8 hl hn ho hp hq hr hs hu hv hw hx hz h0 h1 h2 h3 h4 h5 h6 h9 ia ib ic id ie ig ih ii ij ik il im io ip iq ir iu iw ix iy iz i1 i2 i3 i4 i5 i6 i7 i8 i9 ja jb jc jd je jf jg jh ji jj jk jl jm jn jo jp jq jr js jt ju jv jw jx jy jz j0 j1 j2 j3 j4 j5 j6 j7 j8 j9 ka cx cy cz c2 c3 c4 c5 c6 c7 c8 c9 da db dc dd de df dg dh di dj dk dl dm dn dp dq dr ds dt du dv dw dx dy dz d4 d5 d6 d7 d8 d9 ea eb ec ed ee ef eg eh ei ej ek el em eo ep eq er,gI w X tb p root c (k+1) pb o un ul ui mu cu u n1 n2 kd l1 l2 Au cur cells s1 s2 S S0 v6 v7 v8 w'/\a'={ tmps:=#[.pointer (some ⟨tb,0,none⟩),.pointer (some ⟨pb,o,none⟩),.agg #[.int .i64 n0,.int .i64 kd,.int .i64 l0,.slice l N.length c0],u3,u4,.pointer (some ⟨w.heap.size,0,none⟩),v6,v7,v8,u9,aw,ax,ay,hl,hn,ho,hp,hq,hr,hs,hu,hv,hw,hx,hz,h0,h1,h2,h3,h4,h5,h6,h9,ia,ib,ic,id,ie,ig,ih,ii,ij,ik,il,im,io,ip,iq,ir,iu,iw,ix,iy,iz,i1,i2,i3,i4,i5,i6,i7,i8,i9,ja,jb,jc,jd,je,jf,jg,jh,ji,jj,jk,jl,jm,jn,jo,jp,jq,jr,js,jt,ju,jv,jw,jx,jy,jz,j0,j1,j2,j3,j4,j5,j6,j7,j8,j9,ka,cx,cy,cz,c2,c3,c4,c5,c6,c7,c8,c9,da,db,dc,dd,de,df,dg,dh,di,dj,dk,dl,dm,dn,dp,dq,dr,ds,dt,du,dv,dw,dx,dy,dz,d4,d5,d6,d7,d8,d9,ea,eb,ec,ed,ee,ef,eg,eh,ei,ej,ek,el,em,eo,ep,eq,er],defers:=[] })->J a' w') (hM:∀(a':Act) (w':World),Met J a' w'->K' a' w') :
 Code.wp Tryz.prog (ZL 1 (xB (ZL 3 (Tryz.f145.body.getD .skip)))) (Exit.then K' Q0) { tmps:=#[.pointer (some ⟨tb,0,none⟩),.pointer (some ⟨pb,o,none⟩),.agg #[.int .i64 n0,.int .i64 kd,.int .i64 l0,.slice l N.length c0],u3,u4,.pointer (some ⟨w.heap.size,0,none⟩),.int .i64 iv,.pointer (some ⟨w.heap.size+1,0,none⟩),.pointer (some ⟨w.heap.size+1+1,0,none⟩),u9,aw,ax,ay,es,et,eu,ev,ew,.bool (decide (0<iv)),ex,ey,ez,e0,e1,e2,e3,e4,e5,e6,e7,e8,e9,fa,fb,fc,fd,fe,ff,fg,fh,fi,fj,fk,fl,fm,fn,fo,fp,fq,fs,ft,fu,fv,fw,fx,fy,fz,f0,f1,f2,f3,f4,f5,f6,f9,ga,gb,gc,gd,ge,gg,gh,gi,gj,gk,gl,gm,gn,go,gp,gq,gr,gs,gt,gu,gv,gw,gx,gy,g5,g6,g7,g8,g9,ha,hc,hd,he,hf,hh,a7,a8,a9,ba,bb,bc,bd,be,bf,bg,bh,bi,bj,bk,bl,bm,bn,bo,bp,bq,br,bt,bu,bv,bw,bx,bz,b0,b1,b2,b3,b4,b5,b6,b7,b8,b9,ca,cb,cc,cd,ce,cf,cg,ch,ci,cj,ck,cl,cm,cn,co,cp,cq,cr,cs,ct,cv,cw],defers:=[] } d:=by
 conv =>
  arg 2
  simp only[Tryz.f145,Option.getD,ZL,xB]
 conv =>
  arg 4
  dsimp only
 dsimp only at hJ;have gz:=L.hb.lt;have kb:=Ac HP.lt;have P3:=Ac (HP.below A);have M3:=Ac (O.below A);have m:=Ac (L.below A);have U3:=Ac (Turn.below X A);have f:Hid (∀ i,w.heap.size<=i->some i∉X):=Ac (λi hi hm=>by have:=kb _ hm;omega);have kc:=hj.out
 rcases kc with⟨ah,rfl,rfl,rfl,P⟩ |⟨ah,rfl,rfl,rfl,rfl,P⟩
 ·have LD:=Ac (λW (h:PT W X p S S0 c k) (ht:TM W X tb p root)=>Jg (n:=n1) h ht (by have:=ad.out;omega) (by have:=ad.out;omega) (by have:=R.out;omega) (ae.pg _ (by have:=R.out;omega)) (by rw [P];exact az));rw[P]at LD
  have M:=(λW (h:SS W Au mu ((I.drop 1).map Af))=>Wq un mu cu Au I W x.1 h x.2.2.1 (by rw[x.2.2.2.1];rfl) (by have:=ag.out;omega))
  rw[x.2.2.2.1,Ha (by have:=ae.few;have:=R.out;omega),x.2.1,a4.out,a5.out]at M
  have i0:(0:Int)<(u:Int)+1:=by omega
  have wu:IntKind.i64.wrap (u:Int)=(u:Int):=JL _ ⟨by omega,by have:=x.2.1;have:=ag.out;omega⟩;have ai:=Ac M
  obtain rfl:iv=(u:Int)+1:=by have:=a6.out;omega
  clear M P ah;obtain⟨g0,g1,g2,g3,g4⟩:=m.at5;have gf:=m.hb.frozen;have ke:=m.hb.lt;obtain⟨r0,r1,r2,r3⟩:=B.cells4;have rz:=B.lt
  go_upto_region 4 with fail
  have k3:=Ac (at8 (B.drew) (m.below ((AU d.heap.size d).drew)));have NA:Hid (∀ g,w.heap.size<=g->∀ k,(Value.slice Au mu cu).ownBlock=some k->k≠g):=Ac (λg E k hk e=>by have:=(L.row.lt k hk).2;omega);have aj:Hid (w.heap.size≠w.heap.size+1):=Ac (by omega);have ak:Hid (w.heap.size≠w.heap.size+1+1):=Ac (by omega);have N7:Hid (pb≠w.heap.size+1):=Ac (by omega);have N8:Hid (pb≠w.heap.size+1+1):=Ac (by omega);have al:=Ac (NA (w.heap.size+1) (EZ _));have am:=Ac (NA (w.heap.size+1+1) (by omega));have an:=Ac (λW (h:Below d.heap.size d W) (y:Int) (hy:y=u)=>by have q:=ai W (m.below h).ss;rw[<- hy]at q;exact q)
  go_region_held3 (λw'=>w'.cell? ⟨w.heap.size,0,none⟩=some (.int .i64 n2)/\w'.cell? ⟨w.heap.size,1,none⟩=some (.int .i64 kd)/\w'.cell? ⟨w.heap.size,2,none⟩=some (.int .i64 l2)/\w'.cell? ⟨w.heap.size,3,none⟩=some (.slice l s2.length c0)/\w'.cell? ⟨pb,o,none⟩=some (.int .i64 un)/\w'.cell? ⟨pb,o+1,none⟩=some (.int .i64 2)/\w'.cell? ⟨pb,o+2,none⟩=some (.int .i64 ul)/\w'.cell? ⟨pb,o+3,none⟩=some (.slice Au mu cu)) (first | (with_reducible exact k7.out) | (with_reducible exact k6.out) | (with_reducible exact k5.out) | (with_reducible exact k4.out) | (with_reducible exact k3.out) | go_keep)
   (first
     |(go_at_call 132;(with_reducible refine(an.out _ ((AU _ _).drew) _ (by first | exact wu |(rw[wu]) | omega)).mono ?_);rintro en w4 ⟨rfl,D⟩;have F:=Ac (show Below d.heap.size d w4 from((AU d.heap.size d).drew).trans (show Below d.heap.size d.drew w4 from D));have H4:=Ac (B.Ai (((AU d.heap.size d).drew).trans D));have Q4:=Ac (m.below (((AU d.heap.size d).drew).trans D));have k4:=Ac (at8 H4 Q4);clear D)
     |(go_at_call 62;(with_reducible refine(LD.out _ (P3.out.below F.out) (M3.out.below F.out)).mono ?_);rintro en H ⟨A1,c1,z,rfl,T,Y,Z,aa⟩;have P5:=Ac T;have b:=Ac (((Turn.below X F).trans Y));have O5:=Ac Z;have Z5:=Ac aa;have G0:=Ac (b.has B (f _ (AY _)));have Q:=Ac (m.turn b);have k5:=Ac (at8 G0 Q);have H6:=Ac (Sl G0 aj (.int .i64 n1) (.int .i64 kd) (.int .i64 l1) (.slice A1 s1.length c1));have Q6:=Ac (Es.FT Q N7 al (.int .i64 n1) (.int .i64 kd) (.int .i64 l1) (.slice A1 s1.length c1));have k6:=Ac (at8 H6 Q6);have H7:=Ac (Sl H6 ak (.int .i64 n2) (.int .i64 kd) (.int .i64 l2) (.slice l s2.length c0));have Q7:=Ac (Es.FT Q6 N8 am (.int .i64 n2) (.int .i64 kd) (.int .i64 l2) (.slice l s2.length c0));have k7:=Ac (at8 H7 Q7);have y7:=(b.has C (f _ (EZ _))).lt;have f7:=(b.has C (f _ (EZ _))).frozen;have y8:=(b.has v (f _ (by omega))).lt;have f8:=(b.has v (f _ (by omega))).frozen;obtain⟨a0,a1,a2,a3⟩:=(b.has C (f _ (EZ _))).cells4;obtain⟨d0,d1,d2,d3⟩:=(b.has v (f _ (by omega))).cells4;clear T Y Z aa))
  go_wp2_with fail
  go_meet;have o7:some (w.heap.size+1)∉z:=b.out.out (f _ (EZ _)) C.lt;have o8:some (w.heap.size+1+1)∉z:=b.out.out (f _ (by omega)) v.lt
  have ao:tb≠w.heap.size+1:=by have:=O.has.lt;omega
  have ap:tb≠w.heap.size+1+1:=by have:=O.has.lt;omega
  have aq:w.heap.size<=w.heap.size+1:=EZ _
  have ar:w.heap.size<=w.heap.size+1+1:=by omega
  have h7:=b.has C (f _ (EZ _));have h8:=b.has v (f _ (by omega))
  have ab:w.heap.size+1≠w.heap.size+1+1:=by omega
  have au:=SS.Ed O5;have av:=(K.1.keep A).stay b.size λa e=>b.block _ (DD (K.2 a e).2 A.size) (K.2 a e).1;have bs:=F.size;have kf:=v.lt;have s3:=A.size;have s5:=b.size
  have s:∀ a,A1=some a->some a.block∉z/\a.block<H.heap.size/\a.block≠w.heap.size+1/\a.block≠w.heap.size+1+1:=λa e=>by
   subst e;have q:=O5.lt a.block rfl;exact⟨Z5 a.block rfl,q.2,by omega,by omega⟩
  have t:∀ a,l=some a->some a.block∉z/\a.block<H.heap.size/\a.block≠w.heap.size+1/\a.block≠w.heap.size+1+1:=λa e=>by
   have q:=K.2 a e;exact⟨b.out.out q.1 (by omega),by omega,by omega,by omega⟩
  have j:((((((((H.setCell ⟨w.heap.size+1,0,none⟩ (.int .i64 n1)).setCell ⟨w.heap.size+1,1,none⟩ (.int .i64 kd)).setCell ⟨w.heap.size+1,2,none⟩ (.int .i64 l1)).setCell ⟨w.heap.size+1,3,none⟩ (.slice A1 s1.length c1)).setCell ⟨w.heap.size+1+1,0,none⟩ (.int .i64 n2)).setCell ⟨w.heap.size+1+1,1,none⟩ (.int .i64 kd)).setCell ⟨w.heap.size+1+1,2,none⟩ (.int .i64 l2)).setCell ⟨w.heap.size+1+1,3,none⟩ (.slice l s2.length c0)).heap.size=H.heap.size:=by simp
  have kg:=O.has.lt;have kh:=L.hb.lt;refine⟨rfl,_,_,z,A1,l,c1,c0,_,rfl,rfl,rfl,⟨((P5.FU o7).FU o8),(((M3.turn b).FU ao).FU ap),Q7,(((U3.trans b).UM aq).UM ar),⟨Sl (aF h7 _ _ _ _) ab _ _ _ _,aF (Sl h8 ab.symm _ _ _ _) _ _ _ _,o7,o8,bW _,(au.FT (λa e=>(s a e).2.2.1) _ _ _ _).FT (λa e=>(s a e).2.2.2) _ _ _ _,(av.FT (λa e=>(t a e).2.2.1) _ _ _ _).FT (λa e=>(t a e).2.2.2) _ _ _ _,λa e=>⟨(s a e).1,by rw[j];exact(s a e).2.1,(s a e).2.2⟩,λa e=>⟨(t a e).1,by rw[j];exact(t a e).2.1,(t a e).2.2⟩⟩,by rw[j];omega,by rw[j];omega,by rw[j];omega,λg E=>by rw[j];exact(Q.row.lt g E).2,λg E=>by have:=(L.row.lt g E).2;omega,λa e=>by rw[j];exact(s a e).2.1,λa e=>by rw[j];exact(t a e).2.1,by rw[j];omega,AY _⟩⟩
 ·have LD:=Ac (λW (h:PT W X p S S0 c k) (ht:TM W X tb p root)=>Jg (n:=n2) h ht (by have:=ad.out;omega) (by have:=ad.out;omega) (by have:=R.out;omega) (ae.pg _ (by have:=R.out;omega)) (by rw [P];exact az));rw[P]at LD
  have M:=(λW (h:SS W Au mu ((I.drop 1).map Af))=>Wq un mu cu Au I W (U:=U++[ac]) (it:=af) (V:=V) (by rw[x.1];simp) h x.2.2.1 (by rw[x.2.2.2.2];rfl) (by have:=ag.out;omega))
  have ki:(U++[ac]).length=1:=by rw[A8,x.2.1];rfl
  rw[x.2.2.2.2,Ha (by have:=ae.few;have:=R.out;omega),ki,a4.out,a5.out]at M;have ai:=Ac M
  obtain rfl:iv=0:=by have:=a6.out;omega
  clear M P ah;obtain⟨g0,g1,g2,g3,g4⟩:=m.at5;have gf:=m.hb.frozen;have ke:=m.hb.lt;obtain⟨r0,r1,r2,r3⟩:=B.cells4;have rz:=B.lt
  go_upto_region 6 with fail
  have k3:=Ac (at8 (B.drew) (m.below ((AU d.heap.size d).drew)));have NA:Hid (∀ g,w.heap.size<=g->∀ k,(Value.slice Au mu cu).ownBlock=some k->k≠g):=Ac (λg E k hk e=>by have:=(L.row.lt k hk).2;omega);have aj:Hid (w.heap.size≠w.heap.size+1):=Ac (by omega);have ak:Hid (w.heap.size≠w.heap.size+1+1):=Ac (by omega);have N7:Hid (pb≠w.heap.size+1):=Ac (by omega);have N8:Hid (pb≠w.heap.size+1+1):=Ac (by omega);have al:=Ac (NA (w.heap.size+1) (EZ _));have am:=Ac (NA (w.heap.size+1+1) (by omega));have an:=Ac (λW (h:Below d.heap.size d W) (y:Int) (hy:y=((1:Nat):Int))=>by have q:=ai W (m.below h).ss;rw[<- hy]at q;exact q)
  go_region_held3 (λw'=>w'.cell? ⟨w.heap.size,0,none⟩=some (.int .i64 n1)/\w'.cell? ⟨w.heap.size,1,none⟩=some (.int .i64 kd)/\w'.cell? ⟨w.heap.size,2,none⟩=some (.int .i64 l1)/\w'.cell? ⟨w.heap.size,3,none⟩=some (.slice l s1.length c0)/\w'.cell? ⟨pb,o,none⟩=some (.int .i64 un)/\w'.cell? ⟨pb,o+1,none⟩=some (.int .i64 2)/\w'.cell? ⟨pb,o+2,none⟩=some (.int .i64 ul)/\w'.cell? ⟨pb,o+3,none⟩=some (.slice Au mu cu)) (first | (with_reducible exact k7.out) | (with_reducible exact k6.out) | (with_reducible exact k5.out) | (with_reducible exact k4.out) | (with_reducible exact k3.out) | go_keep)
   (first
     |(go_at_call 132;(with_reducible refine(an.out _ ((AU _ _).drew) _ (by omega)).mono ?_);rintro en w4 ⟨rfl,D⟩;have F:=Ac (show Below d.heap.size d w4 from((AU d.heap.size d).drew).trans (show Below d.heap.size d.drew w4 from D));have H4:=Ac (B.Ai (((AU d.heap.size d).drew).trans D));have Q4:=Ac (m.below (((AU d.heap.size d).drew).trans D));have k4:=Ac (at8 H4 Q4);clear D)
     |(go_at_call 62;(with_reducible refine(LD.out _ (P3.out.below F.out) (M3.out.below F.out)).mono ?_);rintro en H ⟨A1,c1,z,rfl,T,Y,Z,aa⟩;have P5:=Ac T;have b:=Ac (((Turn.below X F).trans Y));have O5:=Ac Z;have Z5:=Ac aa;have G0:=Ac (b.has B (f _ (AY _)));have Q:=Ac (m.turn b);have k5:=Ac (at8 G0 Q);have H6:=Ac (Sl G0 aj (.int .i64 n1) (.int .i64 kd) (.int .i64 l1) (.slice l s1.length c0));have Q6:=Ac (Es.FT Q N7 al (.int .i64 n1) (.int .i64 kd) (.int .i64 l1) (.slice l s1.length c0));have k6:=Ac (at8 H6 Q6);have H7:=Ac (Sl H6 ak (.int .i64 n2) (.int .i64 kd) (.int .i64 l2) (.slice A1 s2.length c1));have Q7:=Ac (Es.FT Q6 N8 am (.int .i64 n2) (.int .i64 kd) (.int .i64 l2) (.slice A1 s2.length c1));have k7:=Ac (at8 H7 Q7);have y7:=(b.has C (f _ (EZ _))).lt;have f7:=(b.has C (f _ (EZ _))).frozen;have y8:=(b.has v (f _ (by omega))).lt;have f8:=(b.has v (f _ (by omega))).frozen;obtain⟨a0,a1,a2,a3⟩:=(b.has C (f _ (EZ _))).cells4;obtain⟨d0,d1,d2,d3⟩:=(b.has v (f _ (by omega))).cells4;clear T Y Z aa))
  go_wp2_with fail
  go_meet;have o7:some (w.heap.size+1)∉z:=b.out.out (f _ (EZ _)) C.lt;have o8:some (w.heap.size+1+1)∉z:=b.out.out (f _ (by omega)) v.lt
  have ao:tb≠w.heap.size+1:=by have:=O.has.lt;omega
  have ap:tb≠w.heap.size+1+1:=by have:=O.has.lt;omega
  have aq:w.heap.size<=w.heap.size+1:=EZ _
  have ar:w.heap.size<=w.heap.size+1+1:=by omega
  have h7:=b.has C (f _ (EZ _));have h8:=b.has v (f _ (by omega))
  have ab:w.heap.size+1≠w.heap.size+1+1:=by omega
  have au:=SS.Ed O5;have av:=(K.1.keep A).stay b.size λa e=>b.block _ (DD (K.2 a e).2 A.size) (K.2 a e).1;have bs:=F.size;have kf:=v.lt;have s3:=A.size;have s5:=b.size
  have s:∀ a,A1=some a->some a.block∉z/\a.block<H.heap.size/\a.block≠w.heap.size+1/\a.block≠w.heap.size+1+1:=λa e=>by
   subst e;have q:=O5.lt a.block rfl;exact⟨Z5 a.block rfl,q.2,by omega,by omega⟩
  have t:∀ a,l=some a->some a.block∉z/\a.block<H.heap.size/\a.block≠w.heap.size+1/\a.block≠w.heap.size+1+1:=λa e=>by
   have q:=K.2 a e;exact⟨b.out.out q.1 (by omega),by omega,by omega,by omega⟩
  have j:((((((((H.setCell ⟨w.heap.size+1,0,none⟩ (.int .i64 n1)).setCell ⟨w.heap.size+1,1,none⟩ (.int .i64 kd)).setCell ⟨w.heap.size+1,2,none⟩ (.int .i64 l1)).setCell ⟨w.heap.size+1,3,none⟩ (.slice l s1.length c0)).setCell ⟨w.heap.size+1+1,0,none⟩ (.int .i64 n2)).setCell ⟨w.heap.size+1+1,1,none⟩ (.int .i64 kd)).setCell ⟨w.heap.size+1+1,2,none⟩ (.int .i64 l2)).setCell ⟨w.heap.size+1+1,3,none⟩ (.slice A1 s2.length c1)).heap.size=H.heap.size:=by simp
  have kg:=O.has.lt;have kh:=L.hb.lt;refine⟨rfl,_,_,z,l,A1,c0,c1,_,rfl,rfl,rfl,⟨((P5.FU o7).FU o8),(((M3.turn b).FU ao).FU ap),Q7,(((U3.trans b).UM aq).UM ar),⟨Sl (aF h7 _ _ _ _) ab _ _ _ _,aF (Sl h8 ab.symm _ _ _ _) _ _ _ _,o7,o8,bW _,(av.FT (λa e=>(t a e).2.2.1) _ _ _ _).FT (λa e=>(t a e).2.2.2) _ _ _ _,(au.FT (λa e=>(s a e).2.2.1) _ _ _ _).FT (λa e=>(s a e).2.2.2) _ _ _ _,λa e=>⟨(t a e).1,by rw[j];exact(t a e).2.1,(t a e).2.2⟩,λa e=>⟨(s a e).1,by rw[j];exact(s a e).2.1,(s a e).2.2⟩⟩,by rw[j];omega,by rw[j];omega,by rw[j];omega,λg E=>by rw[j];exact(Q.row.lt g E).2,λg E=>by have:=(L.row.lt g E).2;omega,λa e=>by rw[j];exact(t a e).2.1,λa e=>by rw[j];exact(s a e).2.1,by rw[j];omega,AY _⟩⟩
def GB0 {w:World} {X:List (Option Nat)} {tb p root c k pb o un u ui mu cu n0 l0 c0 n1 l1 n2 l2:Nat} {Au A0:Option Addr} {cur:Array Value} {S S0:St} {ac U V:List It} {cz l:It} {P s1 s2 bs:List ByteArray} {cl cr:List ByteArray} {key:Ky} {lr kd LR:Nat} {lf:Bool}
 (h:PT w X p S S0 c k) (ht:TM w X tb p root) (hc:c+10<=60000) (hk:k<=800000000)
 (hu:Es w X pb o un (Gi (ac.headD ⟨[],[]⟩).r) ui mu cu Au cur ((ac.drop 1).map Af)) (hits:ac=U++cz :: l :: V) (hU:U.length=u) (c6:u<=1000) (hw:IU ac) (c8:cz.r=Ba n1) (da:l.r=Ba n2) (hm:mu<=1000) (ho:o<=1000) (Z:o+3<cur.size)
 (db:SS w A0 P.length P) (dc:∀ a,A0=some a->some a.block∉X/\a.block<w.heap.size)
 (cc:(ui=u+1/\n2=n0/\l2=l0/\s2=P/\S.G n1=(kd,l1,s1))\/(ui=0/\u=0/\n1=n0/\l1=l0/\s1=P/\S.G n2=(kd,l2,s2)))
 (h1:s1.length<=1000) (h2:s2.length<=1000) (dd:0<n1/\n1<S.q/\n1∉S.fr) (de:0<n2/\n2<S.q/\n2∉S.fr) (ax:n1≠n2) (df:l1<=2147483647) (dg:l2<=2147483647) (an:(kd=1/\lf=true/\lr=l1/\LR=l2/\s1++s2=bs)\/(kd=2/\lf=false/\LR=lr/\s1++Af ⟨l.k,Ba l2⟩ :: s2=bs)) (cf:1012<Ce bs/\Ce bs<=100000) (cg:key.length<=200) (dh:Ce cl<=1012) (di:Ce cr<=1012) (dj:lr<=2147483647)
 (dk:∀ W A c,SS W A bs.length bs->bs.length<=c->c<=9223372036854775807->Calls Tryz.prog 143 #[.pointer (some ⟨tb,0,none⟩),.agg #[.int .i64 n1,.int .i64 kd,.int .i64 l1,.slice A bs.length c]] W (WM W n1 kd l1 lr (AQ key) cl cr)) :
 Calls Tryz.prog 145 #[.pointer (some ⟨tb,0,none⟩),.pointer (some ⟨pb,o,none⟩),.agg #[.int .i64 n0,.int .i64 kd,.int .i64 l0,.slice A0 P.length c0]] w
  (SI w X p pb o un (Gi (ac.headD ⟨[],[]⟩).r) ui (.slice Au mu cu) cur ((S.set n1 (kd,l1,cl)).set n2 (kd,LR,cr)) S0 (c+2) (k+3) (((ac.drop 1).map Af).set u (Af ⟨key,Ba n2⟩))):=by
 have dl:=h.ok;have HP:=Ac h;have HT:=Ac ht;have ao:=Ac (AV hc hk);have HU:=Ac hu;have dm:=Ac cc;have HN:=Ac (AV dd (AV de ax));have J:=Ac (AV h1 (AV h2 (AV df dg)));have ch:=Ac cf;have dn:=Ac an;have ap:=Ac (show kd=1\/kd=2 from an.imp TP TP);have er:=Ac (show LR=l2\/LR=lr from an.imp (λh=>h.2.2.2.1) λh=>h.2.2.1)
 have dp:=Ac (λv W=>show Calls Tryz.prog 130 #[.agg #[.int .i64 n1,.int .i64 kd,.int .i64 l1,v]] W (λe w'=>e = .returned (.bool lf)/\Below W.heap.size W w')from by
  rcases an with⟨L,C,_⟩ |⟨L,C,_⟩
  ·rw[L,C];exact Pz n1 l1 v W
  ·rw[L,C];exact Qr n1 l1 v W)
 have ay:=Ac (AV cg (AV dh (AV di dj)));have SP:=Ac dk;have bf:=Ac (AV hm (AV ho (AV Z c6)));have dq:=Ac dl;have aa:=Ac (AV hits (AV hU (AV hw (AV c8 da))));obtain⟨ul,bg⟩:∃ x,Gi (ac.headD ⟨[],[]⟩).r=x:=⟨_,rfl⟩;have es:=Ac bg;rw[bg]at HU hu ⊢;obtain⟨cells,bh⟩:∃ x,(ac.drop 1).map Af=x:=⟨_,rfl⟩;have bi:=Ac bh;rw[bh]at HU hu ⊢;obtain⟨g0,g1,g2,g3,g4⟩:=hu.at5;obtain⟨iv,bj⟩:∃ iv:Int,iv=(ui:Int):=⟨_,rfl⟩;rw[<- bj]at g4;have dr:=Ac bj;have gf:=hu.hb.frozen;have gz:=hu.hb.lt;have ds:=Ac h.lt;have dt:=Ac (AV db dc);clear h ht hc hk dl hu bg bh db dc hits hU hw c8 da cc dd de ax h1 h2 df dg cf hm ho Z c6 bj an cg dh di dj dk;go_enter Tryz.func145,Tryz.ntmps145
 go_upto_if 18 with fail
 have du:=(Has.new w 116 #[.int .i64 n0,.int .i64 kd,.int .i64 l0,.slice A0 P.length c0]);have bk:=(Has.new (w.alloc (.cells #[.int .i64 n0,.int .i64 kd,.int .i64 l0,.slice A0 P.length c0] 116)) 116 #[.int .i64 0,.int .i64 0,.int .i64 0,.slice none 0 0]);have bl:=(Has.new ((w.alloc (.cells #[.int .i64 n0,.int .i64 kd,.int .i64 l0,.slice A0 P.length c0] 116)).alloc (.cells #[.int .i64 0,.int .i64 0,.int .i64 0,.slice none 0 0] 116)) 116 #[.int .i64 0,.int .i64 0,.int .i64 0,.slice none 0 0])
 simp only[ED]at bk bl;have B3:=(((AU w.heap.size w).alloc (AY _) (.cells #[.int .i64 n0,.int .i64 kd,.int .i64 l0,.slice A0 P.length c0] 116)).alloc (by simp) (.cells #[.int .i64 0,.int .i64 0,.int .i64 0,.slice none 0 0] 116)).alloc (by simp;omega) (.cells #[.int .i64 0,.int .i64 0,.int .i64 0,.slice none 0 0] 116);have R0:=Ac ((du.alloc (.cells #[.int .i64 0,.int .i64 0,.int .i64 0,.slice none 0 0] 116)).alloc (.cells #[.int .i64 0,.int .i64 0,.int .i64 0,.slice none 0 0] 116));have R7:=Ac (bk.alloc (.cells #[.int .i64 0,.int .i64 0,.int .i64 0,.slice none 0 0] 116));have R8:=Ac bl;have dv:=Ac B3;clear du bk bl B3
 generalize (((w.alloc (.cells #[.int .i64 n0,.int .i64 kd,.int .i64 l0,.slice A0 P.length c0] 116)).alloc (.cells #[.int .i64 0,.int .i64 0,.int .i64 0,.slice none 0 0] 116)).alloc (.cells #[.int .i64 0,.int .i64 0,.int .i64 0,.slice none 0 0] 116))=W3 at *;clear g0 g1 g2 g3 g4 gf
 go_cut [6,7,8] (λv6 v7 v8 wx=>gI w X tb p root c (k+1) pb o un ul ui mu cu u n1 n2 kd l1 l2 Au cur cells s1 s2 S S0 v6 v7 v8 wx)
 case first =>
  rename_i hJ hM;exact Yk HP HT ao HU ap dm HN bf dq aa es bi dr dt R0 R7 R8 dv hJ hM
 case rest =>
  obtain⟨rfl,b7,b8,Q,A1,A2,c1,c2,z,rfl,rfl,hz,jx⟩:=hcut;have J0:=Ac jx;obtain⟨a0,a1,R,a3⟩:=jx.jn.z7.cells4;have az:=jx.jn.z7.lt;clear jx;clear R0 R7 R8 dv dm dr dt HP HT HU
  go_wp2_with fail
  have q9:=Has.new wc 116 #[.int .i64 n1,.int .i64 kd,.int .i64 l1,.slice A1 s1.length c1];have bq:=Ag wc (.cells #[.int .i64 n1,.int .i64 kd,.int .i64 l1,.slice A1 s1.length c1] 116);have J1:=Ac (J0.below bq);have N1:Hid (some wc.heap.size∉Q):=Ac (λhm=>by have:=J0.pt.lt _ hm;omega);have H9:=Ac q9;clear q9 bq J0 a0 a1 R a3 az;generalize wc.alloc (.cells #[.int .i64 n1,.int .i64 kd,.int .i64 l1,.slice A1 s1.length c1] 116)=W1 at *;rw[<- hz]at H9 N1 ⊢;clear hz;refine(Kv J1.jn.r1 (by have:=J.out;omega)).mono ?_;rintro en w2 ⟨va,rfl,Z,hb2⟩;obtain⟨A9,c9,rfl,fz⟩:=Bg Z;have J2:=Ac (J1.below hb2);have H2:=Ac (H9.Ai hb2);have dw:=J1.zz
  have dx:Hid (Nw (w2.setCell ⟨z,3,none⟩ (.slice A9 s1.length c9)) Q z z n1 kd l1 s1.length c9 A9 s1):=Ac ⟨AY _,H2.set 3 _,N1,Bo (own_base Z dw) (λg i=>CX _ _ _ _ (λe=>by have e2:g=z:=e;have:=(Z.lt g i).1;have:=H9.lt;omega)),λg i=>⟨λhm=>by have:=J1.pt.lt g hm;have:=(Z.lt g i).1;omega,λe=>by have:=(Z.lt g i).1;have:=H9.lt;omega⟩⟩;have J3:=Ac (J2.set (AY z) N1 3 (.slice A9 s1.length c9));obtain⟨D,E,H,I⟩:=H2.cells4;have xf:=H2.frozen;have xz:=H2.lt;obtain⟨a0,a1,R,a3⟩:=J2.jn.z7.cells4;have az:=J2.jn.z7.lt;have d7:b7<z:=Nat.lt_trans J2.jn.d J2.z8;have d8:b8<z:=J2.z8;clear Z hb2 J1 H9 J2 H2 dw
  go_wp2_with fail
  generalize w2.setCell ⟨z,3,none⟩ (.slice A9 s1.length c9)=W3 at *;clear D E H I xf xz a0 a1 R a3 az;refine(dp (.slice A1 s1.length c1) W3).mono ?_;rintro en w4 ⟨rfl,bm⟩;have s:=Ac (J3.below bm);have B:=Ac (dx.below bm);obtain⟨D,E,H,I⟩:=B.hz.cells4;obtain⟨i0,dy,dz,d0,d1⟩:=IP lH;clear bm J3 dx;have u9:u<=1000:=bf.2.2.2
  have ad:cells[u]? = some (Af l):=by
   rw[<- bi.out,GH,IX,aa.1,GU (by rw[aa.2.1];omega),aa.2.1,show 1+u-u=1 by omega];rfl
  obtain⟨b,et⟩:∃ b,Au=some ⟨b,0,none⟩:=by
   rcases s.up.row.2 with⟨hv,h0⟩ |⟨g,cap,fu,hv,_⟩
   ·exfalso;have hl:=s.up.row.1;rw[Gg]at hl;have:=(C9.1 ad).1;omega
   ·injection hv with h2 _ _;exact⟨g,h2⟩
  subst et
  have bn:u<mu:=by
   have hl:=s.up.row.1;rw[Gg]at hl;have:=(C9.1 ad).1;omega
  have eu:(u:Int)<(mu:Int):=by omega
  have ah:=Ac (λW X (h:Es W X pb o un ul ui mu cu (some ⟨b,0,none⟩) cur cells)=>(show W.cell? ⟨b,u,none⟩=some (.string (Af l))from by
   have:=h.row.cells (g:=b) rfl u (.string (Af l)) (by unfold strs;rw[GH,ad];rfl)
   rw[addr_add,FM]at this;exact this))
  clear ad bn
  go_upto_if 46 with fail
  go_cut [46] (λ_ wx=>∃ y A7 c7,y++s2=bs/\y.length<=1001/\Jx w wx X Q z p tb root c (k+1) pb o un ul ui mu cu b7 b8 n1 n2 kd l1 l2 s1.length s2.length c1 c2 (some ⟨b,0,none⟩) A1 A2 cur cells s1 s2 S S0/\Nw wx Q z z n1 kd l1 y.length c7 A7 y)
  case first =>
   rcases dn.out with⟨L,C,q5,q6,q4⟩ |⟨L,C,q6,q4⟩
   ·rw [C];have E4:=Ac q4;clear L C q4 q5 q6
    go_wp2_with fail
    go_meet;exact⟨s1,A9,c9,E4,by have:=J.out;omega,s,B⟩
   ·rw [C];have ev:=Ac q4;clear L C q4 q6;have wR:l.k.length<=200/\l.r.length<=5000:=aa.2.2.1 l (by rw[aa.1];simp);have KY:=Ac (λW=>Il l wR.1 wR.2 W);have FO:=Ac (λW=>Uf l2 (by have:=J.out;omega) W);have CE:=Ac (λW=>Rq ⟨l.k,Ba l2⟩ wR.1 (by simp[Ba]) W)
    obtain⟨vc,aq⟩:∃ v,Af l=v:=⟨_,rfl⟩;obtain⟨KR,bo⟩:∃ v,AQ l.k=v:=⟨_,rfl⟩;obtain⟨F,hF⟩:∃ v,AQ (Ba l2)=v:=⟨_,rfl⟩;obtain⟨f,ai⟩:∃ v,Af ⟨l.k,Ba l2⟩=v:=⟨_,rfl⟩;have ar:AQ (⟨l.k,Ba l2⟩:It).k=KR:=bo;have au:AQ (⟨l.k,Ba l2⟩:It).r=F:=hF;rw[aq]at ah KY;rw[bo]at KY;rw[hF]at FO;rw[ar,au,ai]at CE;obtain⟨y,a4⟩:∃ t,s1++[f]=t:=⟨_,rfl⟩
    have E9:=Ac (show y++s2=bs by rw[<- a4,<- ai,<- ev.out,BU];rfl);have d2:=Ac a4;have TL:=Ac (show y.length<=1001 by rw[<- a4,A8];have:=J.out;simp;omega);clear aq bo hF ai ar au wR a4;obtain⟨D,E,H,I⟩:=B.hz.cells4;obtain⟨p0,p1,p2,p3,p4⟩:=s.up.at5;obtain⟨a0,a1,R,a3⟩:=s.jn.z8.cells4;have rc:=ah _ _ s.up;have xz:=B.hz.lt;have pz:=s.up.hb.lt;have ew:b<w4.heap.size:=(s.up.row.lt b rfl).2;have bz:=s.jn.z8.lt;clear gz ds d7 d8
    go_wp2_with fail
    have wu:IntKind.i64.wrap (u:Int)=(u:Int):=JL _ ⟨by omega,by omega⟩;refine Gt 20 (CQ (w4)) (ZA z pb o b u mu cu b8 l2 s1.length c9 A9 vc KR F f) (by kernel_rfl) (by kernel_rfl) (by kernel_rfl) (λ_ _ T hb=>CQ.step T hb) ?hst (CQ.start _) ?hops ?hend
    case hst=>exact GM0 _ _ _ _ _ _ _ _ _ _ _ _ _ _ _ _
    case hops =>
     intro us wx ae T;obtain⟨u0,u1,u2,u3,u4,u5,u6,u7,u8,u9,ex,ey,e1,e3,e4,e5,e6,e7,e8,fa,rfl⟩:=Y9 us ae;clear ae;simp only[Bq,Act.put,DY,DZ,EP,EF,EH];refine⟨λh=>?_,λh=>?_,λh=>?_,λh=>?_,λh=>?_,λh=>?_,λh=>?_,λh=>?_,λh=>?_,λh=>?_,λh=>?_,λh=>?_,λh=>?_,λh=>?_,λh=>?_,λh=>?_,λh=>?_,λh=>?_,λh=>?_,λh=>?_,trivial⟩
     ·(clear h;refine Ae rfl ?_;go_simp;exact⟨AU _ _,rfl⟩)
     ·obtain rfl:=h 0 rfl
      (clear h;refine Ae rfl ?_;go_simp;exact⟨AU _ _,rfl⟩)
     ·obtain rfl:=h 1 rfl
      (clear h;refine Ae rfl ?_;obtain⟨hc,hf⟩:=T.facts;go_simp;exact⟨AU _ _,rfl⟩)
     ·(clear h;refine Ae rfl ?_;go_simp;exact⟨AU _ _,rfl⟩)
     ·obtain rfl:=h 3 rfl
      (clear h;refine Ae rfl ?_;go_simp;exact⟨AU _ _,rfl⟩)
     ·obtain rfl:=h 4 rfl
      (clear h;refine Ae rfl ?_;go_simp;exact⟨AU _ _,rfl⟩)
     ·obtain rfl:=h 5 rfl
      (clear h;refine Ae rfl ?_;go_simp;exact⟨AU _ _,rfl⟩)
     ·obtain rfl:=h 6 rfl
      (clear h;refine Ae rfl ?_;go_simp;exact⟨AU _ _,rfl⟩)
     ·obtain rfl:=h 7 rfl
      (clear h;refine Ae rfl ?_;obtain⟨hc,hf⟩:=T.facts;go_simp;exact⟨AU _ _,rfl⟩)
     ·(clear h;refine Ae rfl ?_;go_simp;exact⟨AU _ _,rfl⟩)
     ·obtain rfl:=h 9 rfl
      (clear h;refine Ae rfl ?_;go_simp;exact⟨AU _ _,rfl⟩)
     ·obtain rfl:=h 8 rfl;obtain rfl:=h 10 rfl
      (clear h;refine Ae rfl ?_;go_simp;exact⟨AU _ _,rfl⟩)
     ·obtain rfl:=h 11 rfl
      (clear h;refine Ae rfl ?_;obtain⟨hc,hf⟩:=T.facts;go_simp;exact⟨AU _ _,rfl⟩)
     ·obtain rfl:=h 12 rfl
      (clear h;refine Ae rfl ?_;go_simp;refine(KY _).mono ?_;rintro e w1 ⟨rfl,rfl⟩;exact⟨_,rfl,AU _ _,rfl⟩)
     ·(clear h;refine Ae rfl ?_;go_simp;exact⟨AU _ _,rfl⟩)
     ·obtain rfl:=h 14 rfl
      (clear h;refine Ae rfl ?_;go_simp;exact⟨AU _ _,rfl⟩)
     ·obtain rfl:=h 15 rfl
      (clear h;refine Ae rfl ?_;obtain⟨hc,hf⟩:=T.facts;go_simp;exact⟨AU _ _,rfl⟩)
     ·obtain rfl:=h 16 rfl
      (clear h;refine Ae rfl ?_;go_simp;refine(FO _).mono ?_;rintro e w1 ⟨rfl,hb⟩;exact⟨_,rfl,hb,rfl⟩)
     ·obtain rfl:=h 13 rfl;obtain rfl:=h 17 rfl
      (clear h;refine Ae rfl ?_;go_simp;refine(CE _).mono ?_;rintro e w1 ⟨rfl,hb⟩;exact⟨_,rfl,hb,rfl⟩)
     ·obtain rfl:=h 18 rfl
      (clear h;refine Ae rfl ?_;go_simp;exact⟨(AU _ _).alloc (AY _) _,_,rfl,Has.new _ _ _⟩)
    case hend =>
    intro us wx ae T;obtain⟨u0,u1,u2,u3,u4,u5,u6,u7,u8,u9,ex,ey,e1,e3,e4,e5,e6,e7,e8,fa,rfl⟩:=Y9 us ae;clear ae;intro em;obtain⟨h0,h1,h2,h3,h4,h5,h6,h7,h8,h9,fb,fc,ax,fd,fe,ff,fg,fh,fi,fj,_⟩:=em;obtain⟨gc,rfl,d3⟩:=fj;obtain rfl:=h2;have J8:=Ac (s.below T.bel);have av:=Ac (B.below T.bel)
    have fk:=Ac (λj u (hj:[Value.string f][j]? = some u)=>(show wx.cell? ((⟨gc,0,none⟩:Addr).add j)=some u from by
     have fl:j=0:=by have:=(C9.1 hj).1;simp at this;omega
     subst fl
     have e:Value.string f=u:=by simpa using hj
     rw[addr_add,<- e];exact d3.cell 0))
    clear h0 h1 h3 h4 h5 h6 h7 h8 h9 fb fc ax fd fe ff fg fh fi T d3 s B D E H I p0 p1 p2 p3 p4 a0 a1 R a3 rc wu KY ah xz pz ew bz FO CE;simp only[Bq,Act.put,DY,DZ,IC,GV,EP,EF,EH]
    go_wp2_with (at_builtin;refine wpList_append_lies _ rfl (.tmp 49) (.tmp 66) 44 rfl z 9 i0 _ 1 16 QT dy dz d0 d1 rfl (by decide) (.slice A9 s1.length c9) s1.length (strs s1) rfl av.row _ 1 1 [.string f] rfl rfl fk (by simp[Value.oneCell']) (by have:=J.out;omega) (by have:=J.out;simp only[maxLen];omega) (by have:=J.out;omega) (by have:=J8.zz;omega) _ rfl ?_;intro gg ct M cd ba ci fv;have fm:=Ac cd;have d4:=Ac ba;have fn:=Ac ci;have x7:=Ac (av.YU ba);clear cd ba ci;obtain⟨D,E,H,I⟩:=x7.cells4;have xf:=x7.frozen;have xz:=x7.lt)
    have Y:=Ac ((J8.grown d4 (λg i=>⟨(av.row.lt g i).1,(av.rx g i).1⟩)).set (AY z) N1 3 (.slice (some ⟨gg,0,none⟩) y.length ct));have d5:=Ac (av.app (xs:=s1) (ys:=[f]) (λg i=>J8.pt.lt g i) (by rw[A8];rfl) fm d4 (fn.elim (λe=>.inl e.symm) λe=>.inr (D8 some e)));rw[d2.out]at d5;rw[show s1.length+1=y.length by rw[<- d2.out,A8];rfl];go_meet;exact⟨y,_,ct,E9,TL,Y,d5⟩
  case rest =>
  obtain⟨y,A7,c7,e9,tl,j4,d6⟩:=hcut;clear s B D E H I ah gz ds d7 d8;have E9:=Ac e9;have TL:=Ac tl;have s:=Ac j4;have B:=Ac d6;clear e9 tl j4 d6;obtain⟨D,E,H,I⟩:=B.hz.cells4;obtain⟨a0,a1,R,a3⟩:=s.jn.z8.cells4;have G1:Hid (y.length+s2.length<=maxLen):=Ac (by have:=J.out;have:=TL.out;unfold maxLen;omega);have G2:Hid ((y.length+s2.length)*16<=140737488355328):=Ac (by have:=J.out;have:=TL.out;omega);have G3:Hid (z<=wc.heap.size):=Ac s.zz
  go_wp2_with (at_builtin;refine Aq _ rfl (.tmp 72) (.tmp 75) 44 44 rfl z 9 i0 _ 1 16 QT dy dz d0 d1 rfl (by decide) (.slice A7 y.length c7) y.length (strs y) rfl B.row (.slice A2 s2.length c2) s2.length (strs s2) rfl s.jn.r2.src G1 G2 G3 ?_;intro v5 w5 bp br _ cj;obtain⟨A5,c5,rfl,fo⟩:=Bg bp;have d9:=Ac bp;have bt:=Ac br;have ea:=Ac cj;have x5:=Ac (B.YU br);clear bp br cj D E H I a0 a1 R a3;obtain⟨D,E,H,I⟩:=x5.cells4;have xf:=x5.frozen;have xz:=x5.lt)
  have ak:=Ac (B.app (λg i=>s.pt.lt g i) A8.symm d9 bt ea);have J6:=Ac ((s.grown bt (λg i=>⟨(B.row.lt g i).1,(B.rx g i).1⟩)).set (AY z) N1 3 (.slice A5 (y++s2).length c5));have HM:=Ac (show(y++s2).length<=2001 by rw[A8];have:=J.out;have:=TL.out;omega);have a5:=Ac (WA ak.row).2;rw[show y.length+s2.length=(y++s2).length from A8.symm];rw[E9.out]at ak J6 HM a5 ⊢;clear x5 D E H I xf xz d9 bt ea s B G1 G2 G3 fo;generalize w5.setCell ⟨z,3,none⟩ (.slice A5 bs.length c5)=W6 at *;have US:=Ac (Jm A5 bs.length c5 bs W6 ak.ss (by have:=HM.out;omega) (by have:=ch.out;omega));obtain⟨us,ae⟩:∃ us,Ce bs=us:=⟨_,rfl⟩;rw[ae]at US
  have u1:¬(us:Int)<=1012:=by have:=ch.out;omega
  refine US.mono ?_;rintro en w6 ⟨rfl,rfl⟩;clear US ae;obtain⟨D,E,H,I⟩:=ak.hz.cells4
  go_wp2_with fail
  refine(SP W6 A5 c5 ak.ss a5.1 a5.2).mono ?_;rintro en M ⟨va,vb,rfl,bu,bv,f0,bw⟩;obtain⟨Aa,ca,rfl,fp⟩:=Bg bu;obtain⟨Ab,cb,rfl,fq⟩:=Bg bv;have J7:=Ac (J6.below bw);have a6:=Ac J6.pt.lt;have eb:=Ac bw.size;have OA:=Ac bu;have OB:=Ac bv;have ZJ:=Ac J6.zz;clear D E H I bu bv bw J6 ak fp fq SP a5 HM;obtain⟨a0,a1,R,a3⟩:=J7.jn.z7.cells4;have az:=J7.jn.z7.lt;have e0:=J7.jn.z8.cell 0;have ez:=J7.jn.z8.lt
  go_wp2_with fail
  have ec:=Has.new M 116 #[.int .i64 n1,.int .i64 kd,.int .i64 l1,.slice Aa cl.length ca];have bx:=Has.new (M.alloc (.cells #[.int .i64 n1,.int .i64 kd,.int .i64 l1,.slice Aa cl.length ca] 116)) 116 #[.int .i64 n2,.int .i64 kd,.int .i64 lr,.slice Ab cr.length cb];rw[ED]at bx;have bq:=((AU M.heap.size M).alloc (AY _) (.cells #[.int .i64 n1,.int .i64 kd,.int .i64 l1,.slice Aa cl.length ca] 116)).alloc (by simp) (.cells #[.int .i64 n2,.int .i64 kd,.int .i64 lr,.slice Ab cr.length cb] 116);have J8:=Ac (J7.below bq);have b0:z<=M.heap.size:=J7.zz
  have nX:∀ g,M.heap.size<=g->some g∉Q:=λg i hm=>by have:=a6 g hm;have:=eb.out;omega
  have ed:=Ac (Nw.mk2 (bs:=cl) (X:=Q) b0 (nX _ (AY _)) (ec.alloc (.cells #[.int .i64 n2,.int .i64 kd,.int .i64 lr,.slice Ab cr.length cb] 116)) ((OA.alloc _).alloc _) ZJ a6 (λg i=>by have:=(OA.lt g i).2;omega));have ee:=Ac (Nw.mk2 (bs:=cr) (X:=Q) (VH b0) (nX _ (EZ _)) bx ((OB.alloc _).alloc _) ZJ a6 (λg i=>by have:=(OB.lt g i).2;omega));have b1:=Ac (show(∀ g,(Value.slice Aa cl.length ca).ownBlock=some g->g≠M.heap.size+1)/\(∀ g,(Value.slice Ab cr.length cb).ownBlock=some g->g≠M.heap.size)from⟨λg i=>by have:=(OA.lt g i).2;omega,λg i=>by have:=(OB.lt g i).2;omega⟩);clear ec bx bq J7 nX OA OB a6 eb ZJ a0 a1 R a3 az e0 ez b0
  generalize (M.alloc (.cells #[.int .i64 n1,.int .i64 kd,.int .i64 l1,.slice Aa cl.length ca] 116)).alloc (.cells #[.int .i64 n2,.int .i64 kd,.int .i64 lr,.slice Ab cr.length cb] 116)=W8 at *;generalize eo:M.heap.size=N at *;clear eo;refine(dp (.slice A1 s1.length c1) W8).mono ?_;rintro en w9 ⟨rfl,a7⟩;have Y:=Ac (J8.below a7);have O:=Ac (ed.below a7);have af:=Ac (ee.below a7);clear a7 J8 ed ee
  go_upto_if 128 with fail
  go_cut [128] (λ_ wx=>Jx w wx X Q z p tb root c (k+1) pb o un ul ui mu cu b7 b8 n1 n2 kd l1 l2 s1.length s2.length c1 c2 (some ⟨b,0,none⟩) A1 A2 cur cells s1 s2 S S0/\Nw wx Q z N n1 kd l1 cl.length ca Aa cl/\Nw wx Q z (N+1) n2 kd LR cr.length cb Ab cr)
  case first =>
   rcases dn with⟨L,C,q5,q3,q6⟩ |⟨L,C,q3,q6⟩
   ·rw [C];have Q3:=Ac q3;clear L C q3 q5 q6;obtain⟨D,E,H,I⟩:=O.hz.cells4;have xf:=O.hz.frozen;have xz:=O.hz.lt;obtain⟨y0,y1,y2,y3⟩:=af.hz.cells4;have yf:=af.hz.frozen;have yz:=af.hz.lt;have R:=Y.jn.z7.cell 2;have e2:=Y.jn.z8.cell 2;have fw:b7<N:=DD (Nat.lt_trans Y.jn.d Y.z8) O.zb;have fx:b8<N:=DD Y.z8 O.zb
    go_wp2_with fail
    go_region
    go_wp2_with fail
    have ep:=Ac O.nx;have eq:=Ac af.nx;have b2:=Ac ((AU ((w9.setCell ⟨N,2,none⟩ (.int .i64 l1)).setCell ⟨N+1,2,none⟩ (.int .i64 l2)).heap.size ((w9.setCell ⟨N,2,none⟩ (.int .i64 l1)).setCell ⟨N+1,2,none⟩ (.int .i64 l2))).drew);have al:=Ac (((Y.set O.zb ep 2 (.int .i64 l1)).set af.zb eq 2 (.int .i64 l2)).below b2);have aj:=Ac (((O.link l1).far (g:=N+1) (by omega) b1.1 2 (.int .i64 l2)).below b2);have aw:=Ac (((af.far (g:=N) (by omega) b1.2 2 (.int .i64 l1)).link l2).below b2);go_meet;rw[Q3.out];exact⟨al,aj,aw⟩
   ·rw [C];have Q3:=Ac q3;clear L C q3 q6
    go_wp2_with fail
    go_meet;rw[Q3.out];exact⟨Y,O,af⟩
  case rest =>
  obtain⟨ef,eg,eh⟩:=hcut;clear Y O af;have al:=Ac ef;have aj:=Ac eg;have aw:=Ac eh;clear ef eg eh;obtain⟨D,E,H,I⟩:=aj.hz.cells4;have xz:=aj.hz.lt
  go_wp2_with fail
  clear D E H I xz
  have b3:Xu (kd,l1,cl):=⟨by have:=ap.out;show 1<=kd;omega,by have:=ap.out;show kd<=5;omega,by have:=J.out;show l1<=_;omega,ay.2.1⟩
  have b4:Xu (kd,LR,cr):=⟨by have:=ap.out;show 1<=kd;omega,by have:=ap.out;show kd<=5;omega,by have:=J.out;have:=ay.out;have:=er.out;show LR<=_;omega,ay.2.2.1⟩
  have ei:=Ac (λW X (h:PT W X p (S.set n1 (kd,l1,cl)) S0 (c+1) (k+1+1)) (ht:TM W X tb p root) (hs:SS W Ab cr.length cr)=>Hy (n:=n2) (cp:=cb) (pg:=(kd,LR,cr)) h ht (by have:=ao.out;omega) (by have:=ao.out;omega) HN.2.1.1 HN.2.1.2.1 HN.2.1.2.2 b4 hs (by have h9:cr.length<=253:=Yq b4;omega));refine(Hy (n:=n1) (cp:=ca) (pg:=(kd,l1,cl)) al.pt al.tm (by have:=ao.out;omega) (by have:=ao.out;omega) HN.1.1 HN.1.2.1 HN.1.2.2 b3 aj.ss (by have h9:cl.length<=253:=Yq b3;omega)).mono ?_;rintro en f1 ⟨rfl,f2,ck,bb⟩;have a8:=Ac (al.turn bb ck);have bc:=Ac (aw.turn bb);clear ck bb al aj aw b3 b4 b1;obtain⟨y0,y1,y2,y3⟩:=bc.hz.cells4
  go_wp2_with fail
  refine(ei _ _ a8.pt a8.tm bc.ss).mono ?_;rintro en ag ⟨rfl,am,cm,cn⟩;have ab:=Ac (a8.turn cn cm);clear cm cn a8 bc ei y0 y1 y2 y3;have u9:u<=1000:=bf.2.2.2
  have ad:cells[u]? = some (Af l):=by
   rw[<- bi.out,GH,IX,aa.1,GU (by rw[aa.2.1];omega),aa.2.1,show 1+u-u=1 by omega];rfl
  have bn:u<mu:=by
   have hl:=ab.up.row.1;rw[Gg]at hl;have:=(C9.1 ad).1;omega
  have eu:(u:Int)<(mu:Int):=by omega
  have ah:=Ac (λW X (h:Es W X pb o un ul ui mu cu (some ⟨b,0,none⟩) cur cells)=>(show W.cell? ⟨b,u,none⟩=some (.string (Af l))from by
   have:=h.row.cells (g:=b) rfl u (.string (Af l)) (by unfold strs;rw[GH,ad];rfl)
   rw[addr_add,FM]at this;exact this))
  have FO:=Ac (λW=>Uf n2 (by have:=HN.out;have:=dq.few;omega) W);have CE:=Ac (λW=>Rq ⟨key,Ba n2⟩ ay.1 (by simp[Ba]) W);obtain⟨F,hF⟩:∃ v,AQ (Ba n2)=v:=⟨_,rfl⟩;obtain⟨f,ai⟩:∃ v,Af ⟨key,Ba n2⟩=v:=⟨_,rfl⟩;obtain⟨KK,b5⟩:∃ v,AQ key=v:=⟨_,rfl⟩;have ar:AQ (⟨key,Ba n2⟩:It).k=KK:=b5;have au:AQ (⟨key,Ba n2⟩:It).r=F:=hF;obtain⟨vc,aq⟩:∃ v,Af l=v:=⟨_,rfl⟩;rw[aq]at ah;rw[hF]at FO;rw[ar,au,ai]at CE;clear ad bn hF ar au aq;rw[b5];have fs:=Ac ai;clear ai b5;have p3:=ab.up.at5.2.2.2.1;have e0:=ab.jn.z8.cell 0
  have k0:=Ac (show ag.drew.cell? ⟨pb,o+3,none⟩=some (.slice (some ⟨b,0,none⟩) mu cu)/\ag.drew.cell? ⟨b8,0,none⟩=some (.int .i64 n2)from⟨(ab.below ((AU ag.heap.size ag).drew)).up.at5.2.2.2.1,(ab.below ((AU ag.heap.size ag).drew)).jn.z8.cell 0⟩);have b6:Hid (pb≠b/\b8≠b):=Ac ⟨λe=>(ab.up.rx b rfl).2 e.symm,by have h2:=ab.zr b rfl;have h3:=ab.jn.d;omega⟩
  go_wp2_with fail
  have wu:IntKind.i64.wrap (u:Int)=(u:Int):=JL _ ⟨by omega,by omega⟩
  go_region_held3 (λw'=>w'.cell? ⟨pb,o+3,none⟩=some (.slice (some ⟨b,0,none⟩) mu cu)/\w'.cell? ⟨b8,0,none⟩=some (.int .i64 n2)) (first | (with_reducible exact k3.out) | (with_reducible exact k2.out) | (with_reducible exact k1.out) | (with_reducible exact k0.out) | go_keep)
   (first
     |(go_at_call 134;(with_reducible refine(FO.out _).mono ?_);rintro en ej ⟨rfl,co⟩;have b9:=Ac ((ab.below ((AU ag.heap.size ag).drew)).below co);have k1:=Ac (show ej.cell? ⟨pb,o+3,none⟩=some (.slice (some ⟨b,0,none⟩) mu cu)/\ej.cell? ⟨b8,0,none⟩=some (.int .i64 n2)from⟨b9.up.at5.2.2.2.1,b9.jn.z8.cell 0⟩);clear co)
     |(go_at_call 133;(with_reducible refine(CE.out _).mono ?_);rintro en K ⟨rfl,cq⟩;have m:=Ac (b9.below cq);have k2:=Ac (show K.cell? ⟨pb,o+3,none⟩=some (.slice (some ⟨b,0,none⟩) mu cu)/\K.cell? ⟨b8,0,none⟩=some (.int .i64 n2)from⟨m.up.at5.2.2.2.1,m.jn.z8.cell 0⟩);obtain⟨fy,a9⟩:=NA1 m.up.row;have f3:=Ac a9;have rc:=ah _ _ m.up;have rf:=a9.frozen;have rz:=a9.lt;have k3:=Ac (show(K.setCell ⟨b,u,none⟩ (.string f)).cell? ⟨pb,o+3,none⟩=some (.slice (some ⟨b,0,none⟩) mu cu)/\(K.setCell ⟨b,u,none⟩ (.string f)).cell? ⟨b8,0,none⟩=some (.int .i64 n2)from⟨((m.up.hb.far (p:=⟨b,u,none⟩) b6.1 (.string f)).cell _).trans m.up.c3,(m.jn.z8.far (p:=⟨b,u,none⟩) b6.2 (.string f)).cell 0⟩);clear cq a9))
  go_wp2_with fail
  have ek:some b∉am:=(m.up.rx b rfl).1;have cs:PT (K.setCell ⟨b,u,none⟩ (.string f)) am p ((S.set n1 (kd,l1,cl)).set n2 (kd,LR,cr)) S0 (c+2) (k+3):=m.pt.set ek u (.string f);have cv:=IV1 (pb:=pb) (vA:=.slice (some ⟨b,0,none⟩) mu cu) m.tu (grownBy_setCell (w:=K) ⟨b,u,none⟩ (.string f))
  have ce:(K.setCell ⟨b,u,none⟩ (.string f)).ownsRow 0 9 1 (.slice (some ⟨b,0,none⟩) mu cu) mu (strs (cells.set u f)):=by
   have q:=CD1 m.up.row u (.string f);rw[rO]at q;exact q
  have bd:Es (K.setCell ⟨b,u,none⟩ (.string f)) am pb o un ul ui mu cu (some ⟨b,0,none⟩) cur (cells.set u f) :=
   ⟨m.up.hb.far (p:=⟨b,u,none⟩) b6.1 (.string f),m.up.c0,m.up.c1,m.up.c2,m.up.c3,m.up.c4,m.up.nb,ce,m.up.rx⟩
  have CL:(cells.set u f).length=mu:=by
   have hl:=bd.row.1;rw[Gg]at hl;omega
  have cw:Turn (some pb :: (Value.slice (some ⟨b,0,none⟩) mu cu).ownBlock :: X) (some pb :: (Value.slice (some ⟨b,0,none⟩) (cells.set u f).length cu).ownBlock :: am) w (K.setCell ⟨b,u,none⟩ (.string f)):=by rw[CL];exact cv
  have cx:Es (K.setCell ⟨b,u,none⟩ (.string f)) am pb o un ul ui (cells.set u f).length cu (some ⟨b,0,none⟩) (cur.setIfInBounds (o+3) (.slice (some ⟨b,0,none⟩) (cells.set u f).length cu)) (cells.set u f):=by rw[CL,pU m.up.c3];exact bd
  have cy:∀ g,(Value.slice (some ⟨b,0,none⟩) (cells.set u f).length cu).ownBlock=some g->(Value.slice (some ⟨b,0,none⟩) mu cu).ownBlock=some g\/w.heap.size<=g:=λg i=>.inl i
  have be:SI w X p pb o un ul ui (.slice (some ⟨b,0,none⟩) mu cu) cur ((S.set n1 (kd,l1,cl)).set n2 (kd,LR,cr)) S0 (c+2) (k+3) (cells.set u f) (.returned (.tuple #[])) (K.setCell ⟨b,u,none⟩ (.string f)):=⟨rfl,am,some ⟨b,0,none⟩,cu,cs,cw,cx,cy⟩
  have el:cells.set u (Af ⟨key,Ba n2⟩)=cells.set u f:=by rw[fs.out]
  rw[<- el]at be;have ft:=Ac be;clear be cw cx cy el cs cv bd ce CL ek
  go_end0
  exact ft
end Go.Proofs.YtjihboddejaelaaGreat
