/-
  Package tree: join: two nodes become one.
-/
import Derived.Test.YtjihboddejaelaaGreatTm1
import Derived.Test.YtjihboddejaelaaGreatTm16
import Derived.Test.YtjihboddejaelaaGreatTm6
set_option linter.unusedVariables false
set_option linter.unusedSimpArgs false
set_option linter.defProp false
set_option maxRecDepth 100000
set_option maxHeartbeats 100000000
namespace Go.Proofs.YtjihboddejaelaaGreat
open Go.RowKit Go.BigFrame
attribute [local go_sem] Ea Bz Bq Act.put
def FR0 {w:World} {X:List (Option Nat)} {tb p root c k pb o un u ui mu cu n0 l0 c0 m l1 n2 l2:Nat} {Au A0:Option Addr} {cur:Array Value} {S S0:St} {ac U V:List It} {bw C:It} {s0 b s bs:List ByteArray} {kd LR:Nat} {lf:Bool}
 (h:PT w X p S S0 c k) (ht:TM w X tb p root) (hc:c+10<=60000) (hk:k<=800000000)
 (hu:Es w X pb o un (Gi (ac.headD ⟨[],[]⟩).r) ui mu cu Au cur ((ac.drop 1).map Af)) (hits:ac=U++bw :: C :: V) (hU:U.length=u) (bx:u<=1000) (hw:IU ac) (b0:bw.r=Ba m) (b1:C.r=Ba n2) (hm:mu<=1000) (ho:o<=1000) (aa:o+3<cur.size)
 (b2:SS w A0 s0.length s0) (b3:∀ a,A0=some a->some a.block∉X/\a.block<w.heap.size)
 (bh:(ui=u+1/\n2=n0/\l2=l0/\s=s0/\S.G m=(kd,l1,b))\/(ui=0/\u=0/\m=n0/\l1=l0/\b=s0/\S.G n2=(kd,l2,s)))
 (h1:b.length<=1000) (h2:s.length<=1000) (b4:0<m/\m<S.q/\m∉S.fr) (b5:0<n2/\n2<S.q/\n2∉S.fr) (aj:m≠n2) (b6:l1<=2147483647) (b9:l2<=2147483647) (af:(kd=1/\lf=true/\LR=l2/\b++s=bs)\/(kd=2/\lf=false/\LR=l1/\b++Af ⟨C.k,Ba l2⟩ :: s=bs)) (bk:Ce bs<=1012) :
 Calls Tryz.prog 145 #[.pointer (some ⟨tb,0,none⟩),.pointer (some ⟨pb,o,none⟩),.agg #[.int .i64 n0,.int .i64 kd,.int .i64 l0,.slice A0 s0.length c0]] w
  (SI w X p pb o un (Gi (ac.headD ⟨[],[]⟩).r) ui (.slice Au mu cu) cur ((S.set m (kd,LR,bs)).free n2) S0 (c+3) (k+5) (((ac.drop 1).map Af).eraseIdx u)):=by
 have ca:=h.ok;have HP:=Ac h;have HT:=Ac ht;have ag:=Ac (AV hc hk);have HU:=Ac hu;have cb:=Ac bh;have HN:=Ac (AV b4 (AV b5 aj));have Q:=Ac (AV h1 (AV h2 (AV b6 b9)));have ar:=Ac bk;have cc:=Ac af;have ax:=Ac (show kd=1\/kd=2 from af.imp TP TP);have dg:=Ac (show LR=l2\/LR=l1 from af.imp (λh=>h.2.2.1) λh=>h.2.2.1)
 have cd:=Ac (λv W=>show Calls Tryz.prog 130 #[.agg #[.int .i64 m,.int .i64 kd,.int .i64 l1,v]] W (λe w'=>e = .returned (.bool lf)/\Below W.heap.size W w')from by
  rcases af with⟨R,E,_⟩ |⟨R,E,_⟩
  ·rw[R,E];exact Pz m l1 v W
  ·rw[R,E];exact Qr m l1 v W)
 have ak:=Ac (AV hm (AV ho (AV aa bx)));have dh:=Ac ca;have ad:=Ac (AV hits (AV hU (AV hw (AV b0 b1))));obtain⟨ul,ay⟩:∃ x,Gi (ac.headD ⟨[],[]⟩).r=x:=⟨_,rfl⟩;have di:=Ac ay;rw[ay]at HU hu ⊢;obtain⟨cells,a4⟩:∃ x,(ac.drop 1).map Af=x:=⟨_,rfl⟩;have a5:=Ac a4;rw[a4]at HU hu ⊢;obtain⟨g0,g1,g2,g3,g4⟩:=hu.at5;obtain⟨iv,a6⟩:∃ iv:Int,iv=(ui:Int):=⟨_,rfl⟩
 rw[<- a6]at g4;have ce:=Ac a6;have gf:=hu.hb.frozen;have gz:=hu.hb.lt;have cf:=Ac h.lt;have cg:=Ac (AV b2 b3);clear h ht hc hk ca hu ay a4 b2 b3 hits hU hw b0 b1 bh b4 b5 aj h1 h2 b6 b9 bk hm ho aa bx a6 af;go_enter Tryz.func145,Tryz.ntmps145
 go_upto_if 18 with fail
 have ch:=(Has.new w 116 #[.int .i64 n0,.int .i64 kd,.int .i64 l0,.slice A0 s0.length c0]);have a7:=(Has.new (w.alloc (.cells #[.int .i64 n0,.int .i64 kd,.int .i64 l0,.slice A0 s0.length c0] 116)) 116 #[.int .i64 0,.int .i64 0,.int .i64 0,.slice none 0 0]);have a8:=(Has.new ((w.alloc (.cells #[.int .i64 n0,.int .i64 kd,.int .i64 l0,.slice A0 s0.length c0] 116)).alloc (.cells #[.int .i64 0,.int .i64 0,.int .i64 0,.slice none 0 0] 116)) 116 #[.int .i64 0,.int .i64 0,.int .i64 0,.slice none 0 0])
 simp only[ED]at a7 a8;have B3:=(((AU w.heap.size w).alloc (AY _) (.cells #[.int .i64 n0,.int .i64 kd,.int .i64 l0,.slice A0 s0.length c0] 116)).alloc (by simp) (.cells #[.int .i64 0,.int .i64 0,.int .i64 0,.slice none 0 0] 116)).alloc (by simp;omega) (.cells #[.int .i64 0,.int .i64 0,.int .i64 0,.slice none 0 0] 116);have R0:=Ac ((ch.alloc (.cells #[.int .i64 0,.int .i64 0,.int .i64 0,.slice none 0 0] 116)).alloc (.cells #[.int .i64 0,.int .i64 0,.int .i64 0,.slice none 0 0] 116));have R7:=Ac (a7.alloc (.cells #[.int .i64 0,.int .i64 0,.int .i64 0,.slice none 0 0] 116));have R8:=Ac a8;have ci:=Ac B3;clear ch a7 a8 B3
 generalize (((w.alloc (.cells #[.int .i64 n0,.int .i64 kd,.int .i64 l0,.slice A0 s0.length c0] 116)).alloc (.cells #[.int .i64 0,.int .i64 0,.int .i64 0,.slice none 0 0] 116)).alloc (.cells #[.int .i64 0,.int .i64 0,.int .i64 0,.slice none 0 0] 116))=W3 at *;clear g0 g1 g2 g3 g4 gf
 go_cut [6,7,8] (λv6 v7 v8 wx=>gI w X tb p root c (k+1) pb o un ul ui mu cu u m n2 kd l1 l2 Au cur cells b s S S0 v6 v7 v8 wx)
 case first =>
  rename_i hJ hM;exact Yk HP HT ag HU ax cb HN ak dh ad di a5 ce cg R0 R7 R8 ci hJ hM
 case rest =>
  obtain⟨rfl,b7,b8,X1,A1,A2,c1,c2,z,rfl,rfl,hz,jx⟩:=hcut;have J0:=Ac jx;obtain⟨L,T,Y,Z⟩:=jx.jn.z7.cells4;have az:=jx.jn.z7.lt;clear jx;clear R0 R7 R8 ci cb ce cg HP HT HU
  go_wp2_with fail
  have q9:=Has.new wc 116 #[.int .i64 m,.int .i64 kd,.int .i64 l1,.slice A1 b.length c1];have bq:=Ag wc (.cells #[.int .i64 m,.int .i64 kd,.int .i64 l1,.slice A1 b.length c1] 116);have J1:=Ac (J0.below bq);have N1:Hid (some wc.heap.size∉X1):=Ac (λhm=>by have:=J0.pt.lt _ hm;omega);have H9:=Ac q9;clear q9 bq J0 L T Y Z az;generalize wc.alloc (.cells #[.int .i64 m,.int .i64 kd,.int .i64 l1,.slice A1 b.length c1] 116)=W1 at *;rw[<- hz]at H9 N1 ⊢;clear hz;refine(Kv J1.jn.r1 (by have:=Q.out;omega)).mono ?_;rintro en w2 ⟨va,rfl,aa,hb2⟩;obtain⟨A9,c9,rfl,ek⟩:=Bg aa;have J2:=Ac (J1.below hb2);have H2:=Ac (H9.Ai hb2);have cj:=J1.zz
  have ck:Hid (Nw (w2.setCell ⟨z,3,none⟩ (.slice A9 b.length c9)) X1 z z m kd l1 b.length c9 A9 b):=Ac ⟨AY _,H2.set 3 _,N1,Bo (own_base aa cj) (λg f=>CX _ _ _ _ (λe=>by have e2:g=z:=e;have:=(aa.lt g f).1;have:=H9.lt;omega)),λg f=>⟨λhm=>by have:=J1.pt.lt g hm;have:=(aa.lt g f).1;omega,λe=>by have:=(aa.lt g f).1;have:=H9.lt;omega⟩⟩;have J3:=Ac (J2.set (AY z) N1 3 (.slice A9 b.length c9));obtain⟨H,I,J,K⟩:=H2.cells4;have xf:=H2.frozen;have xz:=H2.lt;obtain⟨L,T,Y,Z⟩:=J2.jn.z7.cells4;have az:=J2.jn.z7.lt;have d7:b7<z:=Nat.lt_trans J2.jn.d J2.z8;have d8:b8<z:=J2.z8;clear aa hb2 J1 H9 J2 H2 cj
  go_wp2_with fail
  generalize w2.setCell ⟨z,3,none⟩ (.slice A9 b.length c9)=W3 at *;clear H I J K xf xz L T Y Z az;refine(cd (.slice A1 b.length c1) W3).mono ?_;rintro en w4 ⟨rfl,a9⟩;have A:=Ac (J3.below a9);have D:=Ac (ck.below a9);obtain⟨H,I,J,K⟩:=D.hz.cells4;obtain⟨i0,cl,cm,cn,co⟩:=IP lH;clear a9 J3 ck;have u9:u<=1000:=ak.2.2.2
  have al:cells[u]? = some (Af C):=by
   rw[<- a5.out,GH,IX,ad.1,GU (by rw[ad.2.1];omega),ad.2.1,show 1+u-u=1 by omega];rfl
  obtain⟨M,dj⟩:∃ M,Au=some ⟨M,0,none⟩:=by
   rcases A.up.row.2 with⟨hv,h0⟩ |⟨g,cap,eh,hv,_⟩
   ·exfalso;have hl:=A.up.row.1;rw[Gg]at hl;have:=(C9.1 al).1;omega
   ·injection hv with h2 _ _;exact⟨g,h2⟩
  subst dj
  have dk:u<mu:=by
   have hl:=A.up.row.1;rw[Gg]at hl;have:=(C9.1 al).1;omega
  have el:(u:Int)<(mu:Int):=by omega
  have am:=Ac (λW X (h:Es W X pb o un ul ui mu cu (some ⟨M,0,none⟩) cur cells)=>(show W.cell? ⟨M,u,none⟩=some (.string (Af C))from by
   have:=h.row.cells (g:=M) rfl u (.string (Af C)) (by unfold strs;rw[GH,al];rfl)
   rw[addr_add,FM]at this;exact this))
  clear al dk
  go_upto_if 46 with fail
  go_cut [46] (λ_ wx=>∃ B A7 c7,B++s=bs/\B.length<=1001/\Jx w wx X X1 z p tb root c (k+1) pb o un ul ui mu cu b7 b8 m n2 kd l1 l2 b.length s.length c1 c2 (some ⟨M,0,none⟩) A1 A2 cur cells b s S S0/\Nw wx X1 z z m kd l1 B.length c7 A7 B)
  case first =>
   rcases cc.out with⟨R,E,q6,q4⟩ |⟨R,E,q6,q4⟩
   ·rw [E];have E4:=Ac q4;clear R E q4 q6
    go_wp2_with fail
    go_meet;exact⟨b,A9,c9,E4,by have:=Q.out;omega,A,D⟩
   ·rw [E];have dl:=Ac q4;clear R E q4 q6;have wR:C.k.length<=200/\C.r.length<=5000:=ad.2.2.1 C (by rw[ad.1];simp);have KY:=Ac (λW=>Il C wR.1 wR.2 W);have FO:=Ac (λW=>Uf l2 (by have:=Q.out;omega) W);have CE:=Ac (λW=>Rq ⟨C.k,Ba l2⟩ wR.1 (by simp[Ba]) W)
    obtain⟨vc,cq⟩:∃ v,Af C=v:=⟨_,rfl⟩;obtain⟨KR,ba⟩:∃ v,AQ C.k=v:=⟨_,rfl⟩;obtain⟨F,hF⟩:∃ v,AQ (Ba l2)=v:=⟨_,rfl⟩;obtain⟨CB,bb⟩:∃ v,Af ⟨C.k,Ba l2⟩=v:=⟨_,rfl⟩;have cr:AQ (⟨C.k,Ba l2⟩:It).k=KR:=ba;have cs:AQ (⟨C.k,Ba l2⟩:It).r=F:=hF;rw[cq]at am KY;rw[ba]at KY;rw[hF]at FO;rw[cr,cs,bb]at CE;obtain⟨B,an⟩:∃ t,b++[CB]=t:=⟨_,rfl⟩
    have E9:=Ac (show B++s=bs by rw[<- an,<- bb,<- dl.out,BU];rfl);have cv:=Ac an;have TL:=Ac (show B.length<=1001 by rw[<- an,A8];have:=Q.out;simp;omega);clear cq ba hF bb cr cs wR an;obtain⟨H,I,J,K⟩:=D.hz.cells4;obtain⟨p0,p1,p2,p3,p4⟩:=A.up.at5;obtain⟨L,T,Y,Z⟩:=A.jn.z8.cells4;have rc:=am _ _ A.up;have xz:=D.hz.lt;have pz:=A.up.hb.lt;have dm:M<w4.heap.size:=(A.up.row.lt M rfl).2;have bz:=A.jn.z8.lt;clear gz cf d7 d8
    go_wp2_with fail
    have wu:IntKind.i64.wrap (u:Int)=(u:Int):=JL _ ⟨by omega,by omega⟩;refine Gt 20 (CQ (w4)) (ZA z pb o M u mu cu b8 l2 b.length c9 A9 vc KR F CB) (by kernel_rfl) (by kernel_rfl) (by kernel_rfl) (λ_ _ hC hb=>CQ.step hC hb) ?hst (CQ.start _) ?hops ?hend
    case hst=>exact GM0 _ _ _ _ _ _ _ _ _ _ _ _ _ _ _ _
    case hops =>
     intro us wx ae hC;obtain⟨u0,u1,u2,u3,u4,u5,u6,u7,u8,u9,dn,dp,dq,dr,ds,dt,du,dv,dw,dx,rfl⟩:=Y9 us ae;clear ae;simp only[Bq,Act.put,DY,DZ,EP,EF,EH];refine⟨λh=>?_,λh=>?_,λh=>?_,λh=>?_,λh=>?_,λh=>?_,λh=>?_,λh=>?_,λh=>?_,λh=>?_,λh=>?_,λh=>?_,λh=>?_,λh=>?_,λh=>?_,λh=>?_,λh=>?_,λh=>?_,λh=>?_,λh=>?_,trivial⟩
     ·(clear h;refine Ae rfl ?_;go_simp;exact⟨AU _ _,rfl⟩)
     ·obtain rfl:=h 0 rfl
      (clear h;refine Ae rfl ?_;go_simp;exact⟨AU _ _,rfl⟩)
     ·obtain rfl:=h 1 rfl
      (clear h;refine Ae rfl ?_;obtain⟨hc,hf⟩:=hC.facts;go_simp;exact⟨AU _ _,rfl⟩)
     ·(clear h;refine Ae rfl ?_;go_simp;exact⟨AU _ _,rfl⟩)
     ·obtain rfl:=h 3 rfl
      (clear h;refine Ae rfl ?_;go_simp;exact⟨AU _ _,rfl⟩)
     ·obtain rfl:=h 4 rfl
      (clear h;refine Ae rfl ?_;go_simp;exact⟨AU _ _,rfl⟩)
     ·obtain rfl:=h 5 rfl
      (clear h;refine Ae rfl ?_;go_simp;exact⟨AU _ _,rfl⟩)
     ·obtain rfl:=h 6 rfl
      (clear h;refine Ae rfl ?_;go_simp;exact⟨AU _ _,rfl⟩)
     ·obtain rfl:=h 7 rfl
      (clear h;refine Ae rfl ?_;obtain⟨hc,hf⟩:=hC.facts;go_simp;exact⟨AU _ _,rfl⟩)
     ·(clear h;refine Ae rfl ?_;go_simp;exact⟨AU _ _,rfl⟩)
     ·obtain rfl:=h 9 rfl
      (clear h;refine Ae rfl ?_;go_simp;exact⟨AU _ _,rfl⟩)
     ·obtain rfl:=h 8 rfl;obtain rfl:=h 10 rfl
      (clear h;refine Ae rfl ?_;go_simp;exact⟨AU _ _,rfl⟩)
     ·obtain rfl:=h 11 rfl
      (clear h;refine Ae rfl ?_;obtain⟨hc,hf⟩:=hC.facts;go_simp;exact⟨AU _ _,rfl⟩)
     ·obtain rfl:=h 12 rfl
      (clear h;refine Ae rfl ?_;go_simp;refine(KY _).mono ?_;rintro e w1 ⟨rfl,rfl⟩;exact⟨_,rfl,AU _ _,rfl⟩)
     ·(clear h;refine Ae rfl ?_;go_simp;exact⟨AU _ _,rfl⟩)
     ·obtain rfl:=h 14 rfl
      (clear h;refine Ae rfl ?_;go_simp;exact⟨AU _ _,rfl⟩)
     ·obtain rfl:=h 15 rfl
      (clear h;refine Ae rfl ?_;obtain⟨hc,hf⟩:=hC.facts;go_simp;exact⟨AU _ _,rfl⟩)
     ·obtain rfl:=h 16 rfl
      (clear h;refine Ae rfl ?_;go_simp;refine(FO _).mono ?_;rintro e w1 ⟨rfl,hb⟩;exact⟨_,rfl,hb,rfl⟩)
     ·obtain rfl:=h 13 rfl;obtain rfl:=h 17 rfl
      (clear h;refine Ae rfl ?_;go_simp;refine(CE _).mono ?_;rintro e w1 ⟨rfl,hb⟩;exact⟨_,rfl,hb,rfl⟩)
     ·obtain rfl:=h 18 rfl
      (clear h;refine Ae rfl ?_;go_simp;exact⟨(AU _ _).alloc (AY _) _,_,rfl,Has.new _ _ _⟩)
    case hend =>
    intro us wx ae hC;obtain⟨u0,u1,u2,u3,u4,u5,u6,u7,u8,u9,dn,dp,dq,dr,ds,dt,du,dv,dw,dx,rfl⟩:=Y9 us ae;clear ae;intro df;obtain⟨h0,h1,h2,h3,h4,h5,h6,h7,h8,h9,dy,dz,aj,d0,d1,d2,d3,d4,d5,d6,_⟩:=df;obtain⟨gc,rfl,cw⟩:=d6;obtain rfl:=h2;have J8:=Ac (A.below hC.bel);have N:=Ac (D.below hC.bel)
    have d9:=Ac (λj u (hj:[Value.string CB][j]? = some u)=>(show wx.cell? ((⟨gc,0,none⟩:Addr).add j)=some u from by
     have ea:j=0:=by have:=(C9.1 hj).1;simp at this;omega
     subst ea
     have e:Value.string CB=u:=by simpa using hj
     rw[addr_add,<- e];exact cw.cell 0))
    clear h0 h1 h3 h4 h5 h6 h7 h8 h9 dy dz aj d0 d1 d2 d3 d4 d5 hC cw A D H I J K p0 p1 p2 p3 p4 L T Y Z rc wu KY am xz pz dm bz FO CE;simp only[Bq,Act.put,DY,DZ,IC,GV,EP,EF,EH]
    go_wp2_with (at_builtin;refine wpList_append_lies _ rfl (.tmp 49) (.tmp 66) 44 rfl z 9 i0 _ 1 16 QT cl cm cn co rfl (by decide) (.slice A9 b.length c9) b.length (strs b) rfl N.row _ 1 1 [.string CB] rfl rfl d9 (by simp[Value.oneCell']) (by have:=Q.out;omega) (by have:=Q.out;simp only[maxLen];omega) (by have:=Q.out;omega) (by have:=J8.zz;omega) _ rfl ?_;intro gg ct w7 bi aq bl ei;have eb:=Ac bi;have cx:=Ac aq;have ec:=Ac bl;have x7:=Ac (N.YU aq);clear bi aq bl;obtain⟨H,I,J,K⟩:=x7.cells4;have xf:=x7.frozen;have xz:=x7.lt)
    have J9:=Ac ((J8.grown cx (λg f=>⟨(N.row.lt g f).1,(N.rx g f).1⟩)).set (AY z) N1 3 (.slice (some ⟨gg,0,none⟩) B.length ct));have cy:=Ac (N.app (xs:=b) (ys:=[CB]) (λg f=>J8.pt.lt g f) (by rw[A8];rfl) eb cx (ec.elim (λe=>.inl e.symm) λe=>.inr (D8 some e)));rw[cv.out]at cy;rw[show b.length+1=B.length by rw[<- cv.out,A8];rfl];go_meet;exact⟨B,_,ct,E9,TL,J9,cy⟩
  case rest =>
  obtain⟨B,A7,c7,e9,tl,j4,cz⟩:=hcut;clear A D H I J K am gz cf d7 d8;have E9:=Ac e9;have TL:=Ac tl;have A:=Ac j4;have D:=Ac cz;clear e9 tl j4 cz;obtain⟨H,I,J,K⟩:=D.hz.cells4;obtain⟨L,T,Y,Z⟩:=A.jn.z8.cells4;have G1:Hid (B.length+s.length<=maxLen):=Ac (by have:=Q.out;have:=TL.out;unfold maxLen;omega);have G2:Hid ((B.length+s.length)*16<=140737488355328):=Ac (by have:=Q.out;have:=TL.out;omega);have G3:Hid (z<=wc.heap.size):=Ac A.zz
  go_wp2_with (at_builtin;refine Aq _ rfl (.tmp 72) (.tmp 75) 44 44 rfl z 9 i0 _ 1 16 QT cl cm cn co rfl (by decide) (.slice A7 B.length c7) B.length (strs B) rfl D.row (.slice A2 s.length c2) s.length (strs s) rfl A.jn.r2.src G1 G2 G3 ?_;intro v5 w5 bc bd _ bm;obtain⟨A5,c5,rfl,ed⟩:=Bg bc;have c6:=Ac bc;have be:=Ac bd;have c8:=Ac bm;have x5:=Ac (D.YU bd);clear bc bd bm H I J K L T Y Z;obtain⟨H,I,J,K⟩:=x5.cells4;have xf:=x5.frozen;have xz:=x5.lt)
  have ah:=Ac (D.app (λg f=>A.pt.lt g f) A8.symm c6 be c8);have J6:=Ac ((A.grown be (λg f=>⟨(D.row.lt g f).1,(D.rx g f).1⟩)).set (AY z) N1 3 (.slice A5 (B++s).length c5));have HM:=Ac (show(B++s).length<=2001 by rw[A8];have:=Q.out;have:=TL.out;omega);have ee:=Ac (WA ah.row).2;rw[show B.length+s.length=(B++s).length from A8.symm];rw[E9.out]at ah J6 HM ee ⊢;clear x5 H I J K xf xz c6 be c8 A D G1 G2 G3 ed;generalize w5.setCell ⟨z,3,none⟩ (.slice A5 bs.length c5)=W6 at *;have US:=Ac (Jm A5 bs.length c5 bs W6 ah.ss (by have:=HM.out;omega) (by have:=ar.out;omega));obtain⟨us,ae⟩:∃ us,Ce bs=us:=⟨_,rfl⟩;rw[ae]at US
  have u1:(us:Int)<=1012:=by have:=ar.out;omega
  refine US.mono ?_;rintro en w6 ⟨rfl,rfl⟩;clear US ae;obtain⟨L,T,Y,Z⟩:=J6.jn.z7.cells4
  go_wp2_with fail
  refine(cd (.slice A1 b.length c1) W6).mono ?_;rintro en w7 ⟨rfl,bf⟩;have J7:=Ac (J6.below bf);have ab:=Ac (ah.below bf);clear bf J6 ah L T Y Z
  go_upto_if 85 with fail
  go_cut [85] (λ_ wx=>Jx w wx X X1 z p tb root c (k+1) pb o un ul ui mu cu b7 b8 m n2 kd l1 l2 b.length s.length c1 c2 (some ⟨M,0,none⟩) A1 A2 cur cells b s S S0/\Nw wx X1 z z m kd LR bs.length c5 A5 bs)
  case first =>
   rcases cc with⟨R,E,q3,q6⟩ |⟨R,E,q3,q6⟩
   ·rw [E];have Q3:=Ac q3;clear R E q3 q6;obtain⟨H,I,J,K⟩:=ab.hz.cells4;have xf:=ab.hz.frozen;have xz:=ab.hz.lt;obtain⟨L,T,Y,Z⟩:=J7.jn.z8.cells4
    go_wp2_with fail
    have J8:=Ac (J7.set (AY z) N1 2 (.int .i64 l2));have N:=Ac (ab.link l2);go_meet;rw[Q3.out];exact⟨J8,N⟩
   ·rw [E];have Q3:=Ac q3;clear R E q3 q6;obtain⟨H,I,J,K⟩:=ab.hz.cells4;have xf:=ab.hz.frozen;have xz:=ab.hz.lt;obtain⟨L,T,Y,Z⟩:=J7.jn.z8.cells4
    go_wp2_with fail
    go_meet;rw[Q3.out];exact⟨J7,ab⟩
  case rest =>
  obtain⟨j8,l8⟩:=hcut;clear J7 ab;have J8:=Ac j8;have N:=Ac l8;clear j8 l8;obtain⟨H,I,J,K⟩:=N.hz.cells4;have xz:=N.hz.lt
  go_wp2_with fail
  clear H I J K xz
  have da:Xu (kd,LR,bs):=⟨by have:=ax.out;show 1<=kd;omega,by have:=ax.out;show kd<=5;omega,by have:=Q.out;have:=dg.out;show LR<=_;omega,ar⟩
  refine(Hy (n:=m) (cp:=c5) (pg:=(kd,LR,bs)) J8.pt J8.tm (by have:=ag.out;omega) (by have:=ag.out;omega) HN.1.1 HN.1.2.1 HN.1.2.2 da N.ss (by have:=HM.out;omega)).mono ?_;rintro en w9 ⟨rfl,X9,db,dc⟩;have J9:=Ac (J8.turn dc db);clear db dc J8 N da N1;have t0:=J9.tm.has.cell 0;have L:=J9.jn.z8.cell 0;have FR:=Ac (λW (h:PT W X9 p (S.set m (kd,LR,bs)) S0 (c+1) (k+1+1))=>WB (x:=n2) h (by have:=ag.out;omega) (by have:=ag.out;omega) HN.2.1.1 HN.2.1.2.1 HN.2.1.2.2)
  go_wp2_with fail
  go_region_held3 (λw'=>w'.cell? ⟨tb,0,none⟩=some (.pointer (some ⟨p,0,none⟩))/\w'.cell? ⟨b8,0,none⟩=some (.int .i64 n2)) (first | exact (⟨l.tm.has.cell 0,l.jn.z8.cell 0⟩) | go_keep)
   (first
     |(go_at_call 80;refine(FR _ (ZM J9.pt)).mono ?_;rintro en bg ⟨rfl,ao,bn,bo⟩;have l:=Ac ((J9.below ((AU w9.heap.size w9).drew)).turn bo bn);clear bn bo)
     |(go_at_call 129;refine(Gp _).mono ?_;rintro e w1 ⟨rfl,rfl⟩))
  obtain⟨u0,u1,u2,u3,u4⟩:=l.up.at5;have uf:=l.up.hb.frozen;have uz:=l.up.hb.lt;clear t0 L FR J9
  have ef:u<mu:=by
   have h1:=l.up.row.1;rw[Gg,<- a5.out,BZ,DJ,ad.1,A8,ad.2.1]at h1;simp at h1;omega
  have DL:=Ac (AZ0 (i:=u) (x:=(u:Int)) (y:=(u:Int)+1) l.up.row ef (by have:=ak.out;omega) rfl rfl)
  go_wp2_with (go_at_call 56;(with_reducible refine DL.out.mono ?_);rintro en ai ⟨em,rfl,au,av,bj⟩;obtain⟨O,P,rfl,ej⟩:=Bg au;have bp:=Ac au;have br:=Ac av;have aw:=Ac bj;have ap:=Ac (show Has ai pb 122 cur from(av.block pb l.up.hb.lt (λe=>(l.up.rx pb e.symm).2 rfl)).trans l.up.hb);clear au av bj u0 u1 u2 u3 u4 uf uz;have uf:=ap.frozen;have uz:=ap.lt;have u3:ai.cell? ⟨pb,o+3,none⟩=some (.slice (some ⟨M,0,none⟩) mu cu):=(ap.cell _).trans l.up.c3)
  have CE:cells.eraseIdx u=(cells.take u++cells.drop (u+1)):=Ab1 ..
  have CL:(cells.take u++cells.drop (u+1)).length=mu-1:=by
   have h1:=bp.1;rw[Gg]at h1;omega
  have dd:∀ g,(Value.slice O (mu-1) P).ownBlock=some g->some g∉ao/\g≠pb:=λg f=>by
   rcases aw.out with e | e
   ·exact l.up.rx g (by rw[<- e];exact f)
   ·have e5:g=bg.heap.size:=CV (f.symm.trans e);exact⟨λhm=>by have:=l.pt.lt g hm;omega,by have:=l.up.hb.lt;omega⟩
  have bt:PT (ai.setCell ⟨pb,o+3,none⟩ (.slice O (mu-1) P)) ao p ((S.set m (kd,LR,bs)).free n2) S0 (c+3) (k+5):=(l.pt.grown br (λg f=>(l.up.rx g f).1)).set l.up.nb (o+3) (.slice O (mu-1) P)
  have bu:=ZF (v':=.slice O (mu-1) P) (pb:=pb) l.tu br (λg f=>by
   rcases aw.out with e | e
   ·exact .inl (by rw[<- e];exact f)
   ·have e5:g=bg.heap.size:=CV (f.symm.trans e)
    exact .inr (by omega)) (o+3) (.slice O (mu-1) P)
  have bv:Es (ai.setCell ⟨pb,o+3,none⟩ (.slice O (mu-1) P)) ao pb o un ul ui (mu-1) P O (cur.setIfInBounds (o+3) (.slice O (mu-1) P)) (cells.take u++cells.drop (u+1)):=by
   exact⟨ap.set _ _,by rw[NF,AO (by omega)];exact l.up.c0,by rw[NF,AO (by omega)];exact l.up.c1,by rw[NF,AO (by omega)];exact l.up.c2,by rw[NF,AC rfl,AC ak.2.2.1],by rw[NF,AO (by omega)];exact l.up.c4,l.up.nb,Bo bp (λg f=>CX _ _ _ _ (dd g f).2),dd⟩
  have de:∀ g,(Value.slice O (mu-1) P).ownBlock=some g->(Value.slice (some ⟨M,0,none⟩) mu cu).ownBlock=some g\/w.heap.size<=g:=λg f=>by
   rcases aw with e | e
   ·exact .inl (by rw[<- e];exact f)
   ·have e5:g=bg.heap.size:=CV (f.symm.trans e);exact .inr (by have:=l.tu.size;omega)
  rw[<- CL]at bt bu bv de ⊢
  have eg:=Ac (show SI w X p pb o un ul ui (.slice (some ⟨M,0,none⟩) mu cu) cur ((S.set m (kd,LR,bs)).free n2) S0 (c+3) (k+5) (cells.eraseIdx u) (.returned (.tuple #[])) (ai.setCell ⟨pb,o+3,none⟩ (.slice O (cells.take u++cells.drop (u+1)).length P))from by
   rw[CE];exact⟨rfl,ao,O,P,bt,bu,bv,de⟩)
  refine IQ (bP rfl _ _ _) rfl ?_;exact eg
end Go.Proofs.YtjihboddejaelaaGreat
namespace Go.Proofs.YtjihboddejaelaaGreat
open Go.RowKit
abbrev En:=Ky×Ky
def I7(G:Nat->Pg)(i:It)(v:Ky)(ps:List Nat):Prop :=
 (i.r=Nb v/\2+i.k.length+v.length<=240/\ps=[])\/(i.r=Nh v.length (ps.headD 0)/\240<2+i.k.length+v.length/\v.length<=3000/\ps≠[]/\QK G ps v)
def I7.congr{G G':Nat->Pg}{i:It}{v:Ky}{ps:List Nat}(h:I7 G i v ps)(f:∀ x∈ps,G' x=G x):I7 G' i v ps:=by
 rcases h with h |⟨a,b,c,d,e⟩
 ·exact .inl h
 ·exact .inr ⟨a,b,c,d,kV e f⟩
def I7.sz{G:Nat->Pg}{i:It}{v:Ky}{ps:List Nat}(h:I7 G i v ps)(f:i.k.length<=200):CO i<=244:=by
 rcases h with⟨a,b,_⟩ |⟨a,b,c,d,e⟩
 ·unfold CO;rw[a];simp[Nb];omega
 ·unfold CO;rw[a];simp[Nh,Ba];omega
def Kz (G:Nat->Pg):List It->List En->List (List Nat)->Prop
 | [],[],[]=>True
 | i :: l,e :: E,ps :: P=>i.k=e.1/\I7 G i e.2 ps/\Kz G l E P
 | _,_,_=>False
def Kz.len {G:Nat->Pg}:∀ {l:List It} {E:List En} {P:List (List Nat)},Kz G l E P->E.length=l.length/\P.length=l.length
 | [],[],[],_=>⟨rfl,rfl⟩
 | i :: l,e :: E,ps :: P,h=>by have:=Kz.len h.2.2;simp[this.1,this.2]
def Kz.app {G:Nat->Pg}:∀ {l l2:List It} {E E2:List En} {P a:List (List Nat)},Kz G l E P->Kz G l2 E2 a->Kz G (l++l2) (E++E2) (P++a)
 | [],_,[],_,[],_,_,k=>k
 | i :: l,_,e :: E,_,ps :: P,_,h,k=>⟨h.1,h.2.1,Kz.app h.2.2 k⟩
def Kz.split {G:Nat->Pg}:∀ {l l2:List It} {E:List En} {P:List (List Nat)},Kz G (l++l2) E P->∃ E1 E2 a b,E=E1++E2/\P=a++b/\Kz G l E1 a/\Kz G l2 E2 b
 | [],l2,E,P,h=>⟨[],E,[],P,rfl,rfl,trivial,h⟩
 | i :: l,l2,e :: E,ps :: P,h=>by
   obtain⟨E1,E2,a,b,rfl,rfl,c,d⟩:=Kz.split h.2.2;exact⟨e :: E1,E2,ps :: a,b,rfl,rfl,⟨h.1,h.2.1,c⟩,d⟩
def Kz.congr {G G':Nat->Pg}:∀ {l:List It} {E:List En} {P:List (List Nat)},Kz G l E P->(∀ x∈P.flatten,G' x=G x)->Kz G' l E P
 | [],[],[],_,_=>trivial
 | i :: l,e :: E,ps :: P,h,hc=>⟨h.1,h.2.1.congr λx a=>hc x (by simp[a]),Kz.congr h.2.2 λx a=>hc x (by simp at a ⊢;exact .inr a)⟩
def Kz.keys {G:Nat->Pg}:∀ {l:List It} {E:List En} {P:List (List Nat)},Kz G l E P->E.map (·.1)=l.map (·.k)
 | [],[],[],_=>rfl
 | i :: l,e :: E,ps :: P,h=>by rw[DW,DW,Kz.keys h.2.2,h.1]
def Kz.mem {G:Nat->Pg}:∀ {l:List It} {E:List En} {P:List (List Nat)},Kz G l E P->∀ i∈l,∃ v ps,I7 G i v ps/\ps∈P
 | [],[],[],_,i,c=>by cases c
 | j :: l,e :: E,ps :: P,h,i,c=>by
   rcases BI.1 c with rfl | c
   ·exact⟨e.2,ps,h.2.1,AZ⟩
   ·obtain ⟨v,d,a,b⟩:=Kz.mem h.2.2 i c;exact⟨v,d,a,BF _ b⟩
def Fh(k:Ky)(E:List En):Nat:=(E.takeWhile λe=>Op.bytesLess e.1 k).length
def Em(k:Ky)(E:List En):Bool:=(E.drop (Fh k E)).head?.any λe=>e.1 == k
def V6(k:Ky)(E:List En):Ky:=((E.drop (Fh k E)).headD ([],[])).2
def JZ(k v:Ky)(E:List En):List En:=E.take (Fh k E)++(k,v) :: E.drop (Fh k E+if Em k E then 1 else 0)
def JP(k:Ky)(E:List En):List En:=if Em k E then E.take (Fh k E)++E.drop (Fh k E+1)else E
def jQ {k:Ky}:∀ {E1 E2:List En},(∀ e∈E1,ltK e.1 k)->(∀ e∈E2,EU k e.1)->Fh k (E1++E2)=E1.length
 | [],[],_,_=>rfl
 | [],e :: E2,_,h2=>by
   have a:Op.bytesLess e.1 k=false:=h2 e AZ;unfold Fh;rw[JU,QW,a];rfl
 | e :: E1,E2,h1,h2=>by
   have a:Op.bytesLess e.1 k=true:=h1 e AZ;have b:=jQ (k:=k) (E1:=E1) (E2:=E2) (λe c=>h1 e (BF _ c)) h2;unfold Fh at b ⊢;rw[F7,QW,a,AC rfl,DF,b];rfl
def WP{k v:Ky}{E1 E2:List En}(c:∀ e∈E1,ltK e.1 k)(a:∀ e∈E2,ltK k e.1):JZ k v (E1++E2)=E1++(k,v) :: E2/\Em k (E1++E2)=false/\JP k (E1++E2)=E1++E2:=by
 have b:=jQ c (λe d=>Lr (a e d))
 have f:Em k (E1++E2)=false:=by
  unfold Em;rw[b,dL]
  cases E2 with
  | nil=>rfl
  | cons e E2 =>
    have:¬ e.1=k:=λg=>Ia k (by have:=a e AZ;rw[g]at this;exact this);simpa using this
 unfold JZ JP;rw[f,b,PV];simp
def fJ{k v u:Ky}{E1 E2:List En}(c:∀ e∈E1,ltK e.1 k)(d:∀ e∈E2,ltK k e.1):JZ k v (E1++(k,u) :: E2)=E1++(k,v) :: E2/\Em k (E1++(k,u) :: E2)=true/\JP k (E1++(k,u) :: E2)=E1++E2/\V6 k (E1++(k,u) :: E2)=u:=by
 have b:=jQ (E2:=(k,u) :: E2) c (λe a=>by
  rcases BI.1 a with rfl | a
  ·exact Px _
  ·exact Lr (d e a))
 have f:Em k (E1++(k,u) :: E2)=true:=by
  unfold Em;rw[b,dL];simp
 have g:(E1++(k,u) :: E2).drop (E1.length+1)=E2:=by
  rw[nK,IY (by omega)];simp
 unfold JZ JP V6;rw[f,b,PV,AC rfl,AC rfl,g,dL];simp
def VZ(E:List En):Prop:=E.Pairwise λa b=>ltK a.1 b.1
structure Mv (S S':St) (a b:List Nat):Prop where
 q:S.q<=S'.q
 pm:(b++S'.fr).Perm (a++S.fr++List.range' S.q (S'.q-S.q))
 keep:∀ x,0<x->x<S.q->x∉a->x∉S.fr->S'.G x=S.G x
def Mv.refl(S:St)(a:List Nat):Mv S S a a:=⟨AY _,by simp,λ_ _ _ _ _=>rfl⟩
section
variable {S S1 S2 S':St} {a b c a' b' r:List Nat}
def Mv.mem(h:Mv S S' a b){x:Nat}(g:x<S.q)(d:x∉a)(e:x∉S.fr):x∉b/\x∉S'.fr:=by
 have key:x∉b++S'.fr:=λf=>by
  have:=h.pm.mem_iff.1 f
  rcases BO.1 this with c | c
  ·exact(BO.1 c).elim d e
  ·have:=List.mem_range'_1.1 c;omega
 exact⟨λh=>key (BL _ h),λh=>key (BC _ h)⟩
def Mv.trans(h:Mv S S1 a b)(k:Mv S1 S2 b c):Mv S S2 a c:=by
 refine⟨BN h.q k.q, ?_,λx f d g i=>?_⟩
 ·have e:List.range' S.q (S2.q-S.q)=List.range' S.q (S1.q-S.q)++List.range' S1.q (S2.q-S1.q):=by
   have:=h.q;have:=k.q;rw[show S2.q-S.q=(S1.q-S.q)+(S2.q-S1.q)by omega,<- List.range'_append_1];rw[show S.q+(S1.q-S.q)=S1.q by omega]
  rw[e,<- BU];exact k.pm.trans (h.pm.append_right _)
 ·obtain ⟨j,m2⟩:=h.mem d g i;rw[k.keep x f (DD d h.q) j m2,h.keep x f d g i]
def Mv.perm(h:Mv S S' a b)(c:a'.Perm a)(d:b'.Perm b):Mv S S' a' b':=by
 refine⟨h.q, ?_,λx e f g i=>h.keep x e f (λj=>g (c.mem_iff.2 j)) i⟩;exact(d.append_right _).trans (h.pm.trans ((c.symm.append_right _).append_right _))
def Mv.frame(h:Mv S S' a b)(r:List Nat):Mv S S' (a++r) (b++r):=by
 refine⟨h.q, ?_,λx c d e f=>h.keep x c d (λg=>e (BL _ g)) f⟩;refine JW.2 λy=>?_;have:=h.pm.count_eq y;simp only[JD]at this ⊢;omega
def Mv.nd(h:Mv S S' a b)(g:(a++S.fr).Nodup)(f:∀ x∈a++S.fr,0<x/\x<S.q):(b++S'.fr).Nodup/\(0<S.q->∀ x∈b++S'.fr,0<x/\x<S'.q):=by
 refine⟨h.pm.nodup_iff.2 (CZ.2 ⟨g,List.nodup_range',λx c y i e=>?_⟩),λj x c=>?_⟩
 ·have:=(f x c).2;have:=List.mem_range'_1.1 i;omega
 ·have k:=h.q
  rcases BO.1 (h.pm.mem_iff.1 c)with d | d
  ·have:=f x d;exact⟨this.1,by omega⟩
  ·have:=List.mem_range'_1.1 d;omega
end
section
variable {S:St} {a:List Nat}
def Mv.alloc(h:GY S)(a:List Nat):Mv S S.alloc a (S.Aj :: a):=by
 refine⟨h.Aj.2.2.2.1, ?_,λx d b e c=>h.SG (by omega) (h.other b c).1⟩;unfold St.Aj St.alloc
 cases f:S.fr with
 | nil =>
   show((S.q :: a)++[]).Perm (a++[]++List.range' S.q (S.q+1-S.q));rw[show S.q+1-S.q=1 by omega];refine JW.2 λy=>?_;simp[List.range'_succ,JD,RF]
 | cons x r =>
   show((x :: a)++r).Perm (a++x :: r++List.range' S.q (S.q-S.q));rw[I9];refine JW.2 λy=>?_;simp[JD,RF];omega
def Mv.set{n:Nat}(b:n∈a)(p:Pg):Mv S (S.set n p) a a:=by
 refine⟨AY _, ?_,λx d f c g=>Be λe=>c (e ▸ b)⟩;show(a++S.fr).Perm (a++S.fr++List.range' S.q (S.q-S.q));rw[I9];simp
def Mv.free(x:Nat)(a:List Nat):Mv S (S.free x) (x :: a) a:=by
 refine⟨AY _, ?_,λy c d b f=>(Be (by omega)).trans (Be λe=>b (e ▸ AZ))⟩;show(a++x :: S.fr).Perm (x :: a++S.fr++List.range' S.q (S.q-S.q));rw[I9];refine JW.2 λy=>?_;simp[JD,RF];omega
def Mv.Bl:∀ (ps:List Nat) {S:St} (a:List Nat),Mv S (Bl S ps) (ps++a) a
 | [],S,a=>Mv.refl S a
 | x :: ps,S,a=>(Mv.free x (ps++a)).trans (Mv.Bl ps a)
end
def KP:Nat->St->Ky->List Nat
 | 0,S,_=>[S.Aj]
 | j+1,S,v=>if 1008<v.length then S.Aj :: KP j S.alloc (v.drop 1008)else [S.Aj]
def rJ(j:Nat)(S:St)(v:Ky):(KP j S v).headD 0=S.Aj/\KP j S v≠[]:=by
 cases j with
 | zero=>exact⟨rfl,by simp[KP]⟩
 | succ j=>unfold KP;split <;> exact⟨rfl,by simp⟩
def Mv.more:∀ (j:Nat) {S:St} {v:Ky},GY S->S.q+j<=60000->v.length<=1008*(j+1)->∀ (a:List Nat),Mv S (KZ j S v) a (KP j S v++a)
 | 0,S,v,h,hq,hv,a=>(Mv.alloc h a).trans (Mv.set AZ _)
 | j+1,S,v,h,hq,hv,a=>by
   have d:=h.Aj;have c:=St.Qd h (by omega);unfold KZ KP;by_cases b:1008<v.length
   ·rw [AC b,AC b];have m:=Mv.more j (v:=v.drop 1008) c (by omega) (by rw[DJ];omega) (S.Aj :: a);refine((Mv.alloc h a).trans (m.trans (Mv.set (n:=S.Aj) (by simp) _))).perm (MZ _) ?_;exact(List.perm_middle (l₁:=KP j S.alloc (v.drop 1008)) (a:=S.Aj) (l₂:=a)).symm
   ·rw [AO b,AO b];exact(Mv.alloc h a).trans (Mv.set AZ _)
def rQ:∀ (j:Nat) {S:St} {v:Ky},GY S->S.q+j<=60000->v.length<=1008*(j+1)->v≠[]->QK (KZ j S v).G (KP j S v) v
 | 0,S,v,h,hq,hv,hv0=>⟨v,[],by simp,hv0,Dq,rfl⟩
 | j+1,S,v,h,hq,hv,hv0=>by
   have d:=h.Aj;have b:=St.Qd h (by omega);unfold KZ KP;by_cases c:1008<v.length
   ·rw [AC c,AC c]
    have g:(v.drop 1008).length<=1008*(j+1):=by rw[DJ];omega
    have m:=Mv.more j (v:=v.drop 1008) b (by omega) g [S.Aj]
    have i:v.drop 1008≠[]:=λe=>by
     have f:(v.drop 1008).length=0:=by rw[e];rfl
     rw[DJ]at f;omega
    have l:=rQ j (v:=v.drop 1008) b (by omega) g i
    have nd:=(m.nd (CZ.2 ⟨by simp,b.nd,λx a y n e=>by
     rw[BH.1 a]at e;exact d.2.2.1 (e ▸ n)⟩) (λx a=>by
     rcases BO.1 a with a | a
     ·rw[BH.1 a];exact⟨d.1,d.2.1⟩
     ·exact b.rng x a)).1
    rw[BU]at nd;have k:=(CZ.1 nd).2.2;refine⟨v.take 1008,v.drop 1008,(DX _ _).symm,λe=>?_, ?_,kV l λx a=>Be λe=>?_⟩
    ·have f:(v.take 1008).length=0:=by rw [e];rfl
     rw[CU]at f;omega
    ·rw[(rJ j S.alloc (v.drop 1008)).1];exact Dq
    ·exact k x a S.Aj (by simp) e
   ·rw [AO c,AO c];exact⟨v,[],by simp,hv0,Dq,rfl⟩
structure Vp (S:St) (root:Nat) (x:Nd) (Ds:List (List Nd)) (E:List En) (P:List (List Nat)):Prop where
 tre:NH S.G root x Ds
 ent:Kz S.G (Jd [x] Ds) E P
 nd:(Gl [x] Ds++P.flatten).Nodup
 rng:∀ p∈Gl [x] Ds++P.flatten,0<p/\p<S.q/\p∉S.fr
def Vp.congr{S S':St}{root:Nat}{x:Nd}{Ds:List (List Nd)}{E:List En}{P:List (List Nat)}{a b:List Nat}(h:Vp S root x Ds E P)(m:Mv S S' a b)(d:∀ p∈Gl [x] Ds++P.flatten,p∉a):Vp S' root x Ds E P/\∀ p∈Gl [x] Ds++P.flatten,p∉b:=by
 have e:∀ p∈Gl [x] Ds++P.flatten,S'.G p=S.G p:=λp c=>m.keep p (h.rng p c).1 (h.rng p c).2.1 (d p c) (h.rng p c).2.2;have f:∀ p∈Gl [x] Ds++P.flatten,p∉b/\p∉S'.fr:=λp c=>m.mem (h.rng p c).2.1 (d p c) (h.rng p c).2.2;refine⟨⟨⟨h.tre.1.congr λp c g=>⟨g,e p (BL _ c)⟩,h.tre.2⟩,h.ent.congr λp c=>e p (BC _ c),h.nd,λp c=>⟨(h.rng p c).1,DD (h.rng p c).2.1 m.q,(f p c).2⟩⟩,λp c=>(f p c).1⟩
def GE1 {G:Nat->Pg} {root:Nat}:∀ {Ds:List (List Nd)} {L:List Nd},BP G 0 root L Ds->(∀ p∈Gl L Ds,p≠0)->2 ^ Ds.length*L.length<=(Gl L Ds).length
 | [],L,_,_=>by show 2 ^ 0*L.length<=(L.map (·.n)).length;simp
 | D :: r,L,h,h0=>by
   have c:=GE1 (Ds:=r) (L:=D) h.2 (λp g=>h0 p (BC _ g))
   have i:∀(M:List Nd),(∀ x∈M,2<=x.its.length)->2*M.length<=(M.flatMap (·.its)).length:=by
    intro M
    induction M with
    | nil=>intro _;exact AY _
    | cons y M c =>
      intro d;have a:=c λz j=>d z (BF _ j);have b:=d y AZ;rw[IK,A8,DF];omega
   have e:=i L (λx f=>(h.1.fit x f (h0 _ (BL _ (F6 f)))).two rfl);rw[h.1.its,BZ]at e
   have k:(Gl L (D :: r)).length=L.length+(Gl D r).length:=by
    show(L.map (·.n)++Gl D r).length=_;rw[A8,BZ]
   rw[k,DF,Nat.pow_succ,Nat.mul_assoc];have:=Nat.mul_le_mul_left (2 ^ r.length) e;omega
def aY{S:St}{root:Nat}{x:Nd}{Ds:List (List Nd)}(h:NH S.G root x Ds)(e:∀ p∈Gl [x] Ds,0<p/\p<S.q)(f:(Gl [x] Ds).Nodup)(g:S.q<=60000):Ds.length<=15:=by
 have a:=GE1 h.1 (λp d=>by have:=(e p d).1;omega);have b:=Ux S.q _ f (λp d=>(e p d).2);refine FC λi=>?_;have c:2 ^ 16<=2 ^ Ds.length:=Nat.pow_le_pow_right (by omega) (by omega);simp at a;omega
def Pnd.congr{G G':Nat->Pg}{root:Nat}{Ds:List (List Nd)}{A B:List Nd}{x:Nd}{ups:List CY}(h:Pnd G root Ds A x B ups)(c:∀ p∈Fe (A++x :: B) Ds ups,G' p=G p):Pnd G' root Ds A x B ups :=
 ⟨h.dn.congr (λp a b=>⟨b,c p (BL _ a)⟩),h.abv.congr (λp a b=>⟨b,c p (BC _ a)⟩) rfl rfl,h.nd,h.le⟩
open Go.BigFrame
def aP(X0:List (Option Nat))(w0:World)(p:Nat)(S S0:St)(root c k d:Nat)(own:List Nat)(L:List It)(e:Ending)(w':World):Prop :=
 e = .returned (.tuple #[])/\∃ S' b a X',PT w' X' p S' S0 c k/\Turn X0 X' w0 w'/\NH S'.G root b a/\Jd [b] a=L/\Mv S S' own (Gl [b] a)/\S'.q<=S.q+d
def UQ{l:List It}(h:∀ i∈l,CO i<=244/\i.k.length<=200):IU l:=λi a=>by
 have:=h i a;refine⟨this.2, ?_⟩;have b:=this.1;unfold CO at b;omega
def xC{G:Nat->Pg}{root:Nat}{Ds:List (List Nd)}{A B:List Nd}{x:Nd}{ups:List CY}(h:Pnd G root Ds A x B ups):(∀ i∈x.its,CO i<=244/\i.k.length<=200)/\(Ds≠[]->∀ i∈x.its,i.r.length=4) :=
 ⟨λi d=>by obtain⟨a,b,_⟩:=h.dn.sz (x:=x) (by simp) d;exact⟨a,b⟩,λe i d=>by obtain⟨_,_,c⟩:=h.dn.sz (x:=x) (by simp) d;exact c e⟩
def UE{b:Bool}{l:List It}(d:1012<Ak (body b l))(e:Ak (body b l)<=1404)(f:∀ i∈body b l,CO i<=244):∃ X y Y,l.take (F8 b l)=X/\l.drop (F8 b l)=y :: Y/\Halves b X (y :: Y)/\0<F8 b l:=by
 obtain⟨a,g,_⟩:=Xz d e f
 cases c:l.drop (F8 b l)with
 | nil=>exact absurd c a.ne.2
 | cons y Y=>exact⟨_,y,Y,rfl,rfl,by rw[c]at a;exact a,g⟩
def Ew(l:List It):Ce (l.map Af)=Ak l:=Ib l
section
variable {w:World} {X:List (Option Nat)} {tb p root c k cp:Nat} {S S0:St} {A B:List Nd} {x:Nd} {Ar:Option Addr}
def qU{S:St}(a:GY S)(h:S.q<=59000){own own':List Nat}{root:Nat}(e:root∈own)(b c d:Pg)(f:own'.Perm (own++[S.Aj,S.alloc.Aj])):Mv S ((((S.alloc.alloc).set S.Aj b).set S.alloc.Aj c).set root d) own own':=by
 have g:=St.Qd a (by omega);have m:=((((Mv.alloc a own).trans (Mv.alloc g (S.Aj :: own))).trans (Mv.set (n:=S.Aj) (by simp) b)).trans (Mv.set (n:=S.alloc.Aj) (by simp) c)).trans (Mv.set (n:=root) (by simp[e]) d);refine m.perm (MZ _) (f.trans ?_);refine JW.2 λy=>?_;simp[JD,RF];omega
def AP1{Ds:List (List Nd)}{ups:List CY}(b:GY S)(k:S.q<=59000)(h:Pnd S.G root Ds A x B ups)(own:∀ q∈Fe (A++x :: B) Ds ups,0<q/\q<S.q/\q∉S.fr):Pnd S.alloc.alloc.G root Ds A x B ups/\(∀ q∈Fe (A++x :: B) Ds ups,q≠S.Aj/\q≠S.alloc.Aj)/\S.Aj≠S.alloc.Aj:=by
 have c:=St.Qd b (by omega);have g:=b.Aj;refine⟨h.congr λq d=>?_,λq d=>?_,(c.other g.2.1 g.2.2.1).1⟩
 ·obtain ⟨i,e,f⟩:=own q d;have a:=b.other e f;have j:=c.other a.2.1 a.2.2;rw[c.SG (by omega) j.1,b.SG (by omega) a.1]
 ·obtain ⟨i,e,f⟩:=own q d;have a:=b.other e f;exact⟨a.1,(c.other a.2.1 a.2.2).1⟩
def IE0 {Ds:List (List Nd)} (h:PT w X p S S0 c k) (N:TM w X tb p root) (hc:c+10<=60000) (hk:k<=800000000) (O:S.q<=59000)
 (g:Pnd S.G root Ds A x B []) (own:∀ q∈Fe (A++x :: B) Ds [],0<q/\q<S.q/\q∉S.fr)
 (m:SS w Ar (BM Ds.isEmpty B x).2.2.length (BM Ds.isEmpty B x).2.2) (J:(BM Ds.isEmpty B x).2.2.length<=cp) (ad:cp<=9223372036854775807) :
 Calls Tryz.prog 142 #[.pointer (some ⟨tb,0,none⟩),.agg #[.int .i64 x.n,.int .i64 (BM Ds.isEmpty B x).1,.int .i64 (BM Ds.isEmpty B x).2.1,.slice Ar (BM Ds.isEmpty B x).2.2.length cp]] w (aP X w p S S0 root (c+7) (k+11) 2 (Fe (A++x :: B) Ds []) (Jd (A++x :: B) Ds)):=by
 obtain⟨hA,hB,j,hl⟩:=g.top;subst hA hB;have E:=h.ok;have a0:=E.few
 have V:Fe ([]++x :: []) Ds []=Gl [x] Ds:=by unfold Fe;exact GI _
 have K:x.n∈Fe ([]++x :: []) Ds []:=by rw[V];exact Cm (by simp) Ds
 obtain⟨P,Q,R⟩:=own x.n K;obtain⟨F,an⟩:=xC g;have hw:=UQ F;have ae:=g.le;obtain⟨pa,af,ag⟩:=AP1 E O g own;have ha:=E.Aj;have h1:=St.Qd E (by omega);have ah:=h1.Aj;have ai:S.Aj∉Fe ([]++x :: []) Ds []:=λhm=>(af _ hm).1 rfl;have aj:S.alloc.Aj∉Fe ([]++x :: []) Ds []:=λhm=>(af _ hm).2 rfl;have ac:Gi (Ba S.Aj)=S.Aj:=Ha (by omega)
 cases Ds with
 | nil =>
   have ep:BM ([]:List (List Nd)).isEmpty [] x=(1,0,x.its.map Af):=rfl;rw[ep]at m J ⊢;dsimp only at m J ⊢;have ao:=Ih x.its;have am:Ak x.its<=1256:=ae;have ap:(x.its.map Af).length=x.its.length:=BZ _;by_cases u:1012<Ak x.its
   ·obtain ⟨f,y,Y,H,I,o,Z⟩:=UE (b:=true) u (by show Ak x.its<=1404;omega) (λi v=>(F i v).1)
    have hits:x.its=f++y :: Y:=by rw[<- H,<- I,DX]
    have T:=pa.rW (G':=_) u ai aj ag H I rfl
    have z1:Ce (f.map Af)<=1012:=by rw[Ew];exact o.l2
    have z2:Ce ((y :: Y).map Af)<=1012:=by rw[Ew];exact o.r2
    have l1:=Ih f;have l2:=Ih (y :: Y);have aq:Ak f<=1012:=o.l2;have ar:Ak (y :: Y)<=1012:=o.r2
    refine (Xf (n:=x.n) (l:=0) (l2:=0) (cs:=x.its) (key:=y.k) (cl:=f.map Af) (cr:=(y :: Y).map Af) (.inl ⟨rfl,rfl,rfl⟩) h N hc hk O P Q R m (by omega) u (by omega) (F y (by rw [hits];simp)).2 (by rw [BZ];omega) (by rw [BZ];omega)
     (λW hb=>Tq _ (m.keep hb) hw u (by omega) (λi v=>(F i v).1) J ad H I) (by omega) (by omega) z1 z2).mono ?_
    rintro en w' ⟨z,X',C,t⟩;refine⟨z,_,_,_,X',C,t, ?_, ?_,qU E O K _ _ _ T.2,by have:=ha.2.2.2.2;have:=ah.2.2.2.2;show S.alloc.alloc.q<=_;omega⟩
    ·have:=T.1;unfold FX at this;simp only[List.headD_cons,ac]at this;rw[<- j]at this;rw[<- j];exact this
    ·simp[Jd,hits]
   ·have L:=g.pG (by show Ak x.its<=1012;omega) (λU=>absurd rfl U) rfl;refine(Yl (n:=x.n) (kd:=1) (l:=0) (cs:=x.its) h N (by omega) (by omega) P Q R (.inl rfl) (by omega) m (by omega) (by omega)).mono ?_;rintro en w' ⟨z,X',C,t⟩;refine⟨z,_,x,[],X',C.more (by omega) (by omega),t, ?_,rfl, ?_,by show S.q<=_;omega⟩
    ·have:=L.1;rw[<- j]at this ⊢;exact this
    ·rw[L.2];exact Mv.set K _
 | cons D r =>
   have ep:BM (D :: r).isEmpty [] x=(2,Gi (x.its.headD ⟨[],[]⟩).r,(x.its.drop 1).map Af):=rfl;rw[ep]at m J ⊢;dsimp only at m J ⊢;have ao:=Ih (x.its.drop 1);have am:Ak (x.its.drop 1)<=1256:=ae;have ap:((x.its.drop 1).map Af).length=(x.its.drop 1).length:=BZ _;have ak:x.its.head?.map (·.k)=some x.lo:=Mc (A:=[]) (B:=[]) (M:=[x]) (by have:=g.dn;simpa using this) (by simp) x AZ
   obtain⟨i0,cs,au⟩:∃ i0 cs,x.its=i0 :: cs:=by
    cases v:x.its with
    | nil=>rw[v]at ak;simp at ak
    | cons a b=>exact⟨a,b,rfl⟩
   have al:Gi (x.its.headD ⟨[],[]⟩).r<=2147483647:=by
    have s:x.its=D.map Dx:=by have q:=g.dn.1.its;simpa using q
    rw[au]at s ⊢
    cases U:D with
    | nil=>rw[U]at s;cases s
    | cons d D' =>
      rw[U]at s;simp at s
      have hd:d.n∈Fe ([]++x :: []) (D :: r) []:=by
       rw[V];exact BC _ (Cm (by rw[U];simp) r)
      have:=(own d.n hd).2.1;show Gi i0.r<=_;rw[s.1];show Gi (Ba d.n)<=_;rw[Ha (by omega)];omega
   by_cases u:1012<Ak (x.its.drop 1)
   ·obtain ⟨f,y,Y,H,I,o,Z⟩:=UE (b:=false) u (by show Ak (x.its.drop 1)<=1404;omega) (λi v=>(F i (JV v)).1)
    have hits:x.its=f++y :: Y:=by rw[<- H,<- I,DX]
    have T:=pa.rW (G':=_) u ai aj ag H I rfl
    have z1:Ce ((f.drop 1).map Af)<=1012:=by rw[Ew];exact o.l2
    have z2:Ce (Y.map Af)<=1012:=by rw[Ew];exact o.r2
    have l1:=Ih (f.drop 1);have l2:=Ih Y;have aq:Ak (f.drop 1)<=1012:=o.l2;have ar:Ak Y<=1012:=o.r2
    have av:Gi y.r<=2147483647:=by
     have s:x.its=D.map Dx:=by have q:=g.dn.1.its;simpa using q
     have hy:y∈D.map Dx:=by rw[<- s];simp[hits]
     obtain⟨d,hd,e⟩:=DI.1 hy
     have aa:d.n∈Fe ([]++x :: []) (D :: r) []:=by
      rw[V];exact BC _ (Cm hd r)
     have:=(own d.n aa).2.1;rw[<- e];show Gi (Ba d.n)<=_;rw[Ha (by omega)];omega
    have aw:Gi (x.its.headD ⟨[],[]⟩).r=Gi (f.headD ⟨[],[]⟩).r:=by
     rw[hits]
     cases f with
     | nil=>exact absurd rfl o.ne.1
     | cons a b=>rfl
    refine (Xf (n:=x.n) (l:=Gi (x.its.headD ⟨[],[]⟩).r) (l2:=Gi y.r) (cs:=x.its.drop 1) (key:=y.k) (cl:=(f.drop 1).map Af) (cr:=Y.map Af) (.inr ⟨rfl,rfl,rfl⟩) h N hc hk O P Q R m (by omega) u (by omega) (F y (by rw [hits];simp)).2 (by rw [BZ];omega) (by rw [BZ];omega)
     (λW hb=>Qv _ (m.keep hb) hw u (by omega) (λi v=>(F i (JV v)).1) J ad (an (by simp)) H I) al av z1 z2).mono ?_
    rintro en w' ⟨z,X',C,t⟩;refine⟨z,_,⟨root,[],[⟨[],Ba S.Aj⟩,⟨y.k,Ba S.alloc.Aj⟩]⟩,[⟨S.Aj,[],f⟩,⟨S.alloc.Aj,y.k,y :: Y⟩] :: D :: r,X',C,t, ?_,rfl,qU E O K _ _ _ T.2,by have:=ha.2.2.2.2;have:=ah.2.2.2.2;show S.alloc.alloc.q<=_;omega⟩;have:=T.1
    have e1:FX ⟨x.n,[],[⟨[],Ba S.Aj⟩,⟨y.k,Ba S.alloc.Aj⟩]⟩=(2,S.Aj,[Af ⟨y.k,Ba S.alloc.Aj⟩]):=by
     unfold FX;simp only[List.headD_cons,ac];rfl
    have e2:BM (D :: r).isEmpty [(⟨S.alloc.Aj,y.k,y :: Y⟩:Nd)] ⟨S.Aj,[],f⟩=(2,Gi (x.its.headD ⟨[],[]⟩).r,(f.drop 1).map Af):=by
     rw[aw];rfl
    rw[e2,<- j,e1]at this;rw[<- j];exact this
   ·by_cases s:x.its.length<=1
    ·obtain ⟨d,e1,e2,e3,e4,e5,e6⟩:=g.LO1 s (by rw [<- j];omega);subst e1
     have aa:d.n∈Fe ([]++x :: []) ([d] :: r) []:=by
      rw[V];exact BC _ (Cm (by simp) r)
     obtain⟨d1,d2,d3⟩:=own d.n aa
     have e7:x.its.drop 1=[]:=by rw[e2];rfl
     have e8:Gi (x.its.headD ⟨[],[]⟩).r=d.n:=by rw[e2];exact Ha (by omega)
     rw[e7,e8];refine(KB0 (n:=x.n) (l:=d.n) h N (by omega) hk P Q R d1 d2 d3 (λe=>e3 (by rw[<- e,j])) (E.pg _ d2) (by rw[e4];cases r <;> simp[BM,FX])).mono ?_;rintro en w' ⟨z,X',C,t⟩;refine⟨z,_,⟨root,[],d.its⟩,r,X',C.more (by omega) (by omega),t, ?_, ?_, ?_,by show S.q<=_;omega⟩
     ·obtain ⟨t1,t2,t3⟩:=e5;refine⟨t1.congr λq ax Z=>⟨Z, ?_⟩,t2,t3⟩
      have ay:q≠d.n:=λe=>by
       have az:(Gl [(⟨root,[],d.its⟩:Nd)] r++[d.n]).Nodup:=e6.nodup_iff.2 g.nd;exact(CZ.1 az).2.2 q ax d.n (by simp) e
      show Ja (Ja (Ja S.G d.n _) 0 _) x.n (S.G d.n) q=Ja S.G root (BM r.isEmpty [] d) q;by_cases ab:q=root
      ·rw[ab,<- j,Dq,Dq,e4]
      ·rw[Be (by rw[j];exact ab),Be ab,Be Z,Be ay]
     ·cases r with
      | nil=>show d.its++[]=[d].flatMap (·.its);simp
      | cons D' r'=>rfl
     ·refine ((Mv.free d.n (Gl [(⟨root,[],d.its⟩:Nd)] r)).trans (Mv.set (n:=x.n) (by rw [j];exact Cm (x:=⟨root,[],d.its⟩) (by simp) r) _)).perm ?_ (MZ _);exact e6.symm.trans VL
    ·have L:=g.pG (by show Ak (x.its.drop 1)<=1012;omega) (λ_=>by omega) rfl;refine(Yl (n:=x.n) (kd:=2) (l:=Gi (x.its.headD ⟨[],[]⟩).r) (cs:=x.its.drop 1) h N (by omega) (by omega) P Q R (.inr ⟨rfl,by rw[BZ,DJ];omega⟩) al m (by omega) (by omega)).mono ?_;rintro en w' ⟨z,X',C,t⟩;refine⟨z,_,x,D :: r,X',C.more (by omega) (by omega),t, ?_,rfl, ?_,by show S.q<=_;omega⟩
     ·have:=L.1;rw[<- j]at this ⊢;exact this
     ·rw[L.2];exact Mv.set K _
end
def BP.vW{G:Nat->Pg}{f root:Nat}{A B:List Nd}{x:Nd}{Ds:List (List Nd)}(h:BP G f root (A++x :: B) Ds)(a:x.n≠f):G x.n=BM Ds.isEmpty B x:=by
 cases Ds with
 | nil =>
   obtain⟨_,b⟩:=Jh.1 (Jw.pages h);exact b.1 a
 | cons D r=>exact h.1.pages x (by simp) a
def ZR(w:World)(X:List (Option Nat))(p pb o:Nat)(u:CY)(ups:List CY)(ui:Nat)(vA:Value)(cur:Array Value)(S S0:St)(root c k d:Nat)(own:List Nat)(L:List It)(e:Ending)(w':World):Prop :=
 ∃ S' b a,Pnd S'.G root b u.A a u.B ups/\(b.length=d+1/\S'.q=S.q)/\a.n=u.y.n/\Gi (a.its.headD ⟨[],[]⟩).r=Gi (u.y.its.headD ⟨[],[]⟩).r/\Jd (u.A++a :: u.B) b=L/\Mv S S' own (Fe (u.A++a :: u.B) b ups) /\
   SI w X p pb o u.y.n (Gi (u.y.its.headD ⟨[],[]⟩).r) ui vA cur S' S0 c k ((a.its.drop 1).map Af) e w'
def UG0{U V:List It}{a b:It}:(((U++a :: b :: V).drop 1).map Af).eraseIdx U.length=((U++[a]++V).drop 1).map Af:=by
 cases U with
 | nil=>rfl
 | cons i U =>
   rw[Ab1];simp only[F7,IC,GV,DF,BU,D9,DW]
   have c:∀(l:List ByteArray) (x y:ByteArray) (m:List ByteArray) (n:Nat),n=l.length->(l++x :: y :: m).take (n+1)++(l++x :: y :: m).drop (n+1+1)=l++x :: m:=by
    intro l x y m n d;subst d
    have e:l.length+1-l.length=1:=by omega
    have f:l.length+1+1-l.length=2:=by omega
    rw[List.take_append,nK,EE (by omega),IY (by omega),e,f];simp
   have:=c (U.map Af) (Af a) (Af b) (V.map Af) U.length (BZ _).symm;simpa using this
def ES1{U V:List It}{a b:It}(e:It):(((U++a :: b :: V).drop 1).map Af).set U.length (Af e)=((U++[a,e]++V).drop 1).map Af:=by
 cases U with
 | nil=>rfl
 | cons i U =>
   simp only[F7,IC,GV,DF,BU,D9,DW]
   have c:∀(l:List ByteArray) (x y z:ByteArray) (m:List ByteArray) (n:Nat),n=l.length->(l++x :: y :: m).set (n+1) z=l++x :: z :: m:=by
    intro l x y z m n d;subst d;rw[VK _ _ (by omega)];simp
   have f:=c (U.map Af) (Af a) (Af b) (Af e) (V.map Af) U.length (BZ _).symm;exact f
section
variable {w:World} {X:List (Option Nat)} {tb p root c k pb o mu cu ui n0 c0 f:Nat} {pg0:Pg} {Au A0:Option Addr} {cur:Array Value} {S S0:St} {A B:List Nd} {l r:Nd} {Ds:List (List Nd)} {u:CY} {ups:List CY}
def wW(pr:Pair S.G f root Ds A l r B u ups){D:List Nd}{t:List (List Nd)}(n:Ds=D :: t){x:Nd}(g:x∈[l,r]):∃ a cs d,x.its=a :: cs/\a=Dx d/\d∈D/\a.k=x.lo/\∀ i∈x.its,∃ d∈D,i=Dx d:=by
 subst n;have c:=Mc pr.dn (by simp) x g
 have h:∀ i∈x.its,∃ d∈D,i=Dx d:=λi b=>by
  have m:i∈(A++[l,r]++B).flatMap (·.its):=MG.2 ⟨x,by simp at g;rcases g with rfl | rfl <;> simp,b⟩;rw[pr.dn.1.its]at m;obtain⟨d,j,e⟩:=DI.1 m;exact⟨d,j,e.symm⟩
 cases b:x.its with
 | nil=>rw[b]at c;simp at c
 | cons a cs =>
   rw[b]at c;obtain⟨d,j,e⟩:=h a (by rw[b];exact AZ);exact⟨a,cs,d,rfl,e,j,by simpa using c,by rw[b]at h;exact h⟩
def Yp (h:PT w X p S S0 c k) (ht:TM w X tb p root) (hc:c+10<=60000) (hk:k<=800000000) (pr:Pair S.G f root Ds A l r B u ups)
 (own:∀ q∈Fe (A++[l,r]++B) Ds (u :: ups),0<q/\q<S.q/\q∉S.fr) (K:Ak (body Ds.isEmpty (l.its++r.its))<=1404)
 (hu:Es w X pb o u.y.n (Gi (u.y.its.headD ⟨[],[]⟩).r) ui mu cu Au cur ((u.y.its.drop 1).map Af)) (ho:o<=1000) (ah:o+3<cur.size)
 (ai:SS w A0 pg0.2.2.length pg0.2.2) (aj:∀ a,A0=some a->some a.block∉X/\a.block<w.heap.size)
 (ar:(ui=u.U.length+1/\n0=r.n/\pg0=BM Ds.isEmpty B r/\S.G l.n=BM Ds.isEmpty (r :: B) l)\/(ui=0/\u.U.length=0/\n0=l.n/\pg0=BM Ds.isEmpty (r :: B) l/\S.G r.n=BM Ds.isEmpty B r)) (a9:u.y.n≠f) :
 Calls Tryz.prog 145 #[.pointer (some ⟨tb,0,none⟩),.pointer (some ⟨pb,o,none⟩),.agg #[.int .i64 n0,.int .i64 pg0.1,.int .i64 pg0.2.1,.slice A0 pg0.2.2.length c0]] w
  (ZR w X p pb o u ups ui (.slice Au mu cu) cur S S0 root (c+3) (k+5) Ds.length (Fe (A++[l,r]++B) Ds (u :: ups)) (Jd (A++[l,r]++B) Ds)):=by
 have ba:=h.ok;have bt:=ba.few;obtain⟨n1,n2,n3⟩:=pr.lr;have Z:∀ x∈[l,r],x.n∈Fe (A++[l,r]++B) Ds (u :: ups):=λx H=>BL _ (Cm (by simp at H;rcases H with rfl | rfl <;> simp) Ds);have ol:=own l.n (Z l (by simp));have ak:=own r.n (Z r (by simp));have sz:∀ x∈[l,r],∀ i∈x.its,CO i<=244/\i.k.length<=200/\(Ds≠[]->i.r.length=4):=λx H i m=>pr.dn.sz (x:=x) (by simp at H;rcases H with rfl | rfl <;> simp) m;have E:∀ i∈l.its++r.its,CO i<=244/\i.k.length<=200/\(Ds≠[]->i.r.length=4):=λi m=>(BO.1 m).elim (sz l (by simp) i) (sz r (by simp) i);have ay:=UQ (l:=l.its++r.its) (λi m=>⟨(E i m).1,(E i m).2.1⟩)
 have hits:u.y.its=u.U++Dx l :: Dx r :: u.V:=by rw[pr.up.its];simp
 have a7:u.y.its.length<=300:=by
  have v:=(pr.up.fit u.y (BC _ AZ) a9).le;have h2:=Ih (u.y.its.drop 1);have h3:Ak (u.y.its.drop 1)<=1012:=v;rw[DJ]at h2;omega
 have al:u.U.length<=1000:=by rw[hits,A8]at a7;omega
 have am:mu<=1000:=by
  have v:=hu.row.1;rw[Gg,BZ,DJ]at v;omega
 have bu:∀ x∈[l,r],x.lo.length<=200:=λx H=>pr.dn.RZ0 x (by simp at H;rcases H with rfl | rfl <;> simp)
 have an:IU u.y.its:=λi m=>by
  have v:i∈u.lv.flatMap (·.its):=MG.2 ⟨u.y,BC _ AZ,m⟩;rw[pr.up.inn.its]at v;obtain⟨d,hd,e⟩:=DI.1 v;rw[<- e];exact⟨pr.dn.RZ0 d hd,by show(Ba d.n).length<=5000;simp[Ba]⟩
 have b1:=Ih l.its;have b2:=Ih r.its;have bb:∀ p1 p2,Mv S ((S.set l.n p1).set r.n p2) (Fe (A++[l,r]++B) Ds (u :: ups)) (Fe (A++[l,r]++B) Ds (u :: ups)):=λp1 p2=>(Mv.set (Z l (by simp)) p1).trans (Mv.set (Z r (by simp)) p2)
 have bc:0∉Fe (A++[l,r]++B) Ds (u :: ups):=λhm=>by have:=(own 0 hm).1;omega
 have az:∀(y':Nd) (T:List It),y'.its=u.U++Dx l :: T->Gi (y'.its.headD ⟨[],[]⟩).r=Gi (u.y.its.headD ⟨[],[]⟩).r:=λy' T e=>by
  rw[e,hits];cases u.U <;> rfl
 have au:∀ (O:Pg),Ak (body Ds.isEmpty (l.its++r.its))<=1012->O=BM Ds.isEmpty B ⟨l.n,l.lo,l.its++r.its⟩->∀ L w',SI w X p pb o u.y.n (Gi (u.y.its.headD ⟨[],[]⟩).r) ui (.slice Au mu cu) cur ((S.set l.n O).free r.n) S0 (c+3) (k+5) (((u.y.its.drop 1).map Af).eraseIdx u.U.length) L w' ->
  ZR w X p pb o u ups ui (.slice Au mu cu) cur S S0 root (c+3) (k+5) Ds.length (Fe (A++[l,r]++B) Ds (u :: ups)) (Jd (A++[l,r]++B) Ds) L w':=λO a8 bd L w' M=>by
  obtain⟨q1,q2⟩:=pr.merge (G':=_) a8 rfl;have be:(Fe (u.A++(⟨u.y.n,u.y.lo,u.U++[⟨l.lo,Ba l.n⟩]++u.V⟩:Nd) :: u.B) ((A++[⟨l.n,l.lo,l.its++r.its⟩]++B) :: Ds) ups++[r.n]).Nodup:=q2.nodup_iff.2 pr.nd;refine⟨(S.set l.n O).free r.n,_,_,q1.congr λq hq=>?_,⟨rfl,rfl⟩,rfl,az _ u.V (by simp[Dx]), ?_, ?_, ?_⟩
  ·have bf:q≠r.n:=λe=>(CZ.1 be).2.2 q hq r.n (by simp) e;have bg:q≠0:=λe=>bc (by rw[<- e];exact q2.mem_iff.1 (BL _ hq));show Ja (Ja (Ja S.G l.n O) r.n _) 0 _ q=Ja S.G l.n _ q;rw[Be bg,Be bf,bd]
  ·show Jd (A++[_]++B) Ds=_
   cases Ds with
   | nil=>simp[Jd]
   | cons D t=>rfl
  ·refine ((Mv.set (Z l (by simp)) O).trans ((Mv.free r.n _).perm ?_ (MZ _)));exact q2.symm.trans VL
  ·rw [hits] at M;rw[UG0]at M;rw[hits];exact M
 have av:∀ (pl aa:Pg) (j Y:List It) (y:It),1012<Ak (body Ds.isEmpty (l.its++r.its))->(l.its++r.its).take (F8 Ds.isEmpty (l.its++r.its))=j->(l.its++r.its).drop (F8 Ds.isEmpty (l.its++r.its))=y :: Y->pl=BM Ds.isEmpty (⟨r.n,y.k,y :: Y⟩ :: B) ⟨l.n,l.lo,j⟩->aa=BM Ds.isEmpty B ⟨r.n,y.k,y :: Y⟩->∀ L w',SI w X p pb o u.y.n (Gi (u.y.its.headD ⟨[],[]⟩).r) ui (.slice Au mu cu) cur ((S.set l.n pl).set r.n aa) S0 (c+2) (k+3) (((u.y.its.drop 1).map Af).set u.U.length (Af ⟨y.k,Ba r.n⟩)) L w' ->
  ZR w X p pb o u ups ui (.slice Au mu cu) cur S S0 root (c+3) (k+5) Ds.length (Fe (A++[l,r]++B) Ds (u :: ups)) (Jd (A++[l,r]++B) Ds) L w':=λpl aa j Y y bh z C e1 e2 L w' M=>by
  have I:l.its++r.its=j++y :: Y:=by rw[<- z,<- C,DX]
  obtain⟨q1,q2⟩:=pr.share (G':=_) bh K z C rfl;refine⟨(S.set l.n pl).set r.n aa,(A++[⟨l.n,l.lo,j⟩,⟨r.n,y.k,y :: Y⟩]++B) :: Ds,⟨u.y.n,u.y.lo,u.U++[⟨l.lo,Ba l.n⟩,⟨y.k,Ba r.n⟩]++u.V⟩,by rw[e1,e2];exact q1,⟨rfl,rfl⟩,rfl,az _ (⟨y.k,Ba r.n⟩ :: u.V) (by simp[Dx]), ?_,(bb pl aa).perm (MZ _) q2, ?_⟩
  ·show Jd (A++[_,_]++B) Ds=_
   cases Ds with
   | nil =>
     have e:([⟨l.n,l.lo,j⟩,⟨r.n,y.k,y :: Y⟩]:List Nd).flatMap (·.its)=[l,r].flatMap (·.its):=by
      simp only[IK,List.flatMap_nil,GI];exact I.symm
     show(A++[(⟨l.n,l.lo,j⟩:Nd),⟨r.n,y.k,y :: Y⟩]++B).flatMap (λx:Nd=>x.its)=(A++[l,r]++B).flatMap (λx:Nd=>x.its);rw[H5,H5,e,H5,H5]
   | cons D t=>rfl
  ·rw [hits] at M;rw[ES1]at M;rw[hits];obtain⟨he,X',bi,bj,bk,r1,r2,r3⟩:=M;exact⟨he,X',bi,bj,bk.more (by omega) (by omega),r1,r2,r3⟩
 cases Ds with
 | nil =>
   have ab:BM ([]:List (List Nd)).isEmpty (r :: B) l=(1,r.n,l.its.map Af):=rfl;have ac:BM ([]:List (List Nd)).isEmpty B r=(1,hdN B 0,r.its.map Af):=rfl
   have a0:hdN B 0<=2147483647:=by
    cases hB:B with
    | nil=>exact BR _
    | cons b B' =>
      have:=(own b.n (BL _ (Cm (by rw[hB];simp) []))).2.1;show b.n<=_;omega
   have ad:body ([]:List (List Nd)).isEmpty (l.its++r.its)=l.its++r.its:=rfl;rw[ad]at K;have ap:=Ih (l.its++r.its);rw[A8]at ap
   have s:(ui=u.U.length+1/\r.n=n0/\hdN B 0=pg0.2.1/\r.its.map Af=pg0.2.2/\pg0.1=1/\S.G l.n=(1,r.n,l.its.map Af))\/(ui=0/\u.U.length=0/\l.n=n0/\r.n=pg0.2.1/\l.its.map Af=pg0.2.2/\pg0.1=1/\S.G r.n=(1,hdN B 0,r.its.map Af)):=by
    rcases ar with⟨a,b,c,d⟩ |⟨a,b,c,d,e⟩
    ·rw[ac]at c;subst c;exact .inl ⟨a,b.symm,rfl,rfl,rfl,by rw[d,ab]⟩
    ·rw[ab]at d;subst d;exact .inr ⟨a,b,c.symm,rfl,rfl,rfl,by rw[e,ac]⟩
   have bl:pg0.1=1:=by rcases s with v | v <;> simp[v]
   rw[bl]
   have a1:(ui=u.U.length+1/\r.n=n0/\hdN B 0=pg0.2.1/\r.its.map Af=pg0.2.2/\S.G l.n=(1,r.n,l.its.map Af))\/(ui=0/\u.U.length=0/\l.n=n0/\r.n=pg0.2.1/\l.its.map Af=pg0.2.2/\S.G r.n=(1,hdN B 0,r.its.map Af)):=by
    rcases s with⟨a,b,c,d,_,e⟩ |⟨a,b,c,d,e,_,g⟩
    ·exact .inl ⟨a,b,c,d,e⟩
    ·exact .inr ⟨a,b,c,d,e,g⟩
   have ae:l.its.map Af++r.its.map Af=(l.its++r.its).map Af:=D9.symm;by_cases af:Ak (l.its++r.its)<=1012
   ·refine (FR0 (bs:=(l.its++r.its).map Af) h ht hc hk hu hits rfl al an rfl rfl am ho ah ai aj a1 (by rw [BZ];omega) (by rw [BZ];omega) ol ak n1 (by omega) a0 (.inl ⟨rfl,rfl,rfl,ae⟩) (by rw [Ew];exact af)).mono ?_;exact au _ af rfl
   ·obtain ⟨j,y,Y,z,C,R,h0⟩:=UE (b:=true) (l:=l.its++r.its) (by show 1012<Ak (l.its++r.its);omega) K (λi m=>(E i m).1)
    have I:l.its++r.its=j++y :: Y:=by rw[<- z,<- C,DX]
    refine (GB0 (bs:=(l.its++r.its).map Af) (cl:=j.map Af) (cr:=(y :: Y).map Af) (key:=y.k) h ht hc hk hu hits rfl al an rfl rfl am ho ah ai aj a1 (by rw [BZ];omega) (by rw [BZ];omega) ol ak n1 (by omega) a0 (.inl ⟨rfl,rfl,rfl,rfl,ae⟩) (by rw [Ew];omega) (E y (by rw [I];simp)).2.1 (by rw [Ew];exact R.l2) (by rw [Ew];exact R.r2) (by omega)
     (λW A c s P aq=>by
       rw[BZ]at P s ⊢
       exact Tq _ s ay (by omega) K (λi m=>(E i m).1) P aq z C)).mono ?_
    exact av _ _ j Y y (by show 1012<Ak (l.its++r.its);omega) z C rfl rfl
 | cons D t =>
   obtain⟨il,cl,J,ag,bm,a2,bv,bn⟩:=wW pr rfl (x:=l) (by simp);obtain⟨ir,cr,F,a3,a4,a5,ao,bo⟩:=wW pr rfl (x:=r) (by simp);have N:∀ d∈D,d.n<S.q:=λd hd=>(own d.n (BL _ (BC _ (Cm hd t)))).2.1
   have nl:Gi (l.its.headD ⟨[],[]⟩).r=J.n:=by rw[ag,bm];have:=N J a2;exact Ha (by omega)
   have nr:Gi (r.its.headD ⟨[],[]⟩).r=F.n:=by rw[a3,a4];have:=N F a5;exact Ha (by omega)
   have ab:BM (D :: t).isEmpty (r :: B) l=(2,J.n,(l.its.drop 1).map Af):=by rw[<- nl];rfl
   have ac:BM (D :: t).isEmpty B r=(2,F.n,(r.its.drop 1).map Af):=by rw[<- nr];rfl
   have ad:body (D :: t).isEmpty (l.its++r.its)=l.its.drop 1++r.its:=by rw[ag];rfl
   have Q:(l.its++r.its).drop 1=l.its.drop 1++r.its:=by rw[ag];rfl
   rw[ad]at K;have ap:=Ih (l.its.drop 1++r.its);rw[A8]at ap
   have bp:ir=⟨r.lo,Ba F.n⟩:=by rw[a4]at ao ⊢;unfold Dx at ao ⊢;simp only at ao;rw[ao]
   have ae:(l.its.drop 1).map Af++Af ⟨(Dx r).k,Ba F.n⟩ :: (r.its.drop 1).map Af=(l.its.drop 1++r.its).map Af:=by
    have e1:(⟨(Dx r).k,Ba F.n⟩:It)=ir:=by rw[bp];rfl
    rw[e1,D9,a3];rfl
   have s:pg0.1=2/\((ui=u.U.length+1/\r.n=n0/\F.n=pg0.2.1/\(r.its.drop 1).map Af=pg0.2.2/\S.G l.n=(2,J.n,(l.its.drop 1).map Af))\/(ui=0/\u.U.length=0/\l.n=n0/\J.n=pg0.2.1/\(l.its.drop 1).map Af=pg0.2.2/\S.G r.n=(2,F.n,(r.its.drop 1).map Af))):=by
    rcases ar with⟨a,b,c,d⟩ |⟨a,b,c,d,e⟩
    ·rw[ac]at c;subst c;exact⟨rfl,.inl ⟨a,b.symm,rfl,rfl,by rw[d,ab]⟩⟩
    ·rw[ab]at d;subst d;exact⟨rfl,.inr ⟨a,b,c.symm,rfl,rfl,by rw[e,ac]⟩⟩
   rw[s.1];have ql:=N J a2;have qr:=N F a5
   have aw:((l.its.drop 1).map Af).length<=1000:=by rw[BZ];omega
   have ax:((r.its.drop 1).map Af).length<=1000:=by rw[BZ,DJ];omega
   by_cases af:Ak (l.its.drop 1++r.its)<=1012
   ·refine (FR0 (bs:=(l.its.drop 1++r.its).map Af) h ht hc hk hu hits rfl al an rfl rfl am ho ah ai aj s.2 aw ax ol ak n1 (by omega) (by omega) (.inr ⟨rfl,rfl,rfl,ae⟩) (by rw [Ew];exact af)).mono ?_;refine au _ (by rw[ad];exact af) ?_;show(2,J.n,(l.its.drop 1++r.its).map Af)=FX ⟨l.n,l.lo,l.its++r.its⟩;unfold FX
    show _=(2,Gi ((l.its++r.its).headD ⟨[],[]⟩).r,((l.its++r.its).drop 1).map Af)
    rw[Q,<- nl,ag];rfl
   ·obtain ⟨j,y,Y,z,C,R,h0⟩:=UE (b:=false) (l:=l.its++r.its) (by show 1012<Ak ((l.its++r.its).drop 1);rw [Q];omega) (by show Ak ((l.its++r.its).drop 1)<=1404;rw [Q];exact K) (λi m=>(E i (JV m)).1)
    have I:l.its++r.its=j++y :: Y:=by rw[<- z,<- C,DX]
    have bq:∃ d∈D,y=Dx d:=by
     have hy:y∈l.its++r.its:=by rw[I];simp
     exact(BO.1 hy).elim (bn y) (bo y)
    obtain⟨dy,a6,ey⟩:=bq
    have ny:Gi y.r=dy.n:=by rw[ey];have:=N dy a6;exact Ha (by omega)
    have qy:=N dy a6
    refine (GB0 (bs:=(l.its.drop 1++r.its).map Af) (cl:=(j.drop 1).map Af) (cr:=Y.map Af) (key:=y.k) (lr:=Gi y.r) h ht hc hk hu hits rfl al an rfl rfl am ho ah ai aj s.2 aw ax ol ak n1 (by omega) (by omega) (.inr ⟨rfl,rfl,rfl,ae⟩) (by rw [Ew];omega) (E y (by rw [I];simp)).2.1 (by rw [Ew];exact R.l2) (by rw [Ew];exact R.r2) (by omega)
     (λW A c s P aq=>by
       rw[BZ]at P s ⊢;rw[<- Q]at s P ⊢
       exact Qv _ s ay (by rw[Q];omega) (by rw[Q];exact K) (λi m=>(E i (JV m)).1) P aq (λi m=>(E i m).2.2 (by simp)) z C)).mono ?_
    refine av _ _ j Y y (by rw[ad];omega) z C ?_ rfl;show(2,J.n,(j.drop 1).map Af)=FX ⟨l.n,l.lo,j⟩;unfold FX
    have br:j.headD ⟨[],[]⟩=l.its.headD ⟨[],[]⟩:=by
     cases j with
     | nil=>exact absurd rfl R.ne.1
     | cons a j=>rw[ag]at I ⊢;injection I with v _;exact v.symm
    show _=(2,Gi (j.headD ⟨[],[]⟩).r,(j.drop 1).map Af)
    rw[br,nl]
end
structure Nc (W:World) (X:List (Option Nat)) (pb o n kd l i m c:Nat) (A:Option Addr) (cur:Array Value) (cells:List ByteArray):Prop where
 hb:Has W pb 122 cur
 c0:cur[o]? = some (.int .i64 n)
 c1:cur[o+1]? = some (.int .i64 kd)
 c2:cur[o+2]? = some (.int .i64 l)
 c3:cur[o+3]? = some (.slice A m c)
 c4:cur[o+4]? = some (.int .i64 i)
 nb:some pb∉X
 row:W.ownsRow 0 9 1 (.slice A m c) m (strs cells)
 rx:∀ g,(Value.slice A m c).ownBlock=some g->some g∉X/\g≠pb
section
variable {W W':World} {X X':List (Option Nat)} {pb o n l i m c kd:Nat} {A:Option Addr} {cur:Array Value} {cells:List ByteArray}
def Nc.up(h:Nc W X pb o n 2 l i m c A cur cells):Es W X pb o n l i m c A cur cells:=⟨h.hb,h.c0,h.c1,h.c2,h.c3,h.c4,h.nb,h.row,h.rx⟩
def Es.step(h:Es W X pb o n l i m c A cur cells):Nc W X pb o n 2 l i m c A cur cells:=⟨h.hb,h.c0,h.c1,h.c2,h.c3,h.c4,h.nb,h.row,h.rx⟩
def Nc.turn(h:Nc W X pb o n kd l i m c A cur cells)(b:Turn X X' W W'):Nc W' X' pb o n kd l i m c A cur cells :=
 ⟨b.has h.hb h.nb,h.c0,h.c1,h.c2,h.c3,h.c4,b.out h.nb h.hb.lt,Bo h.row λg a=>b.block g (h.row.lt g a).2 (h.rx g a).1,λg a=>⟨b.out (h.rx g a).1 (h.row.lt g a).2,(h.rx g a).2⟩⟩
def Nc.below(h:Nc W X pb o n kd l i m c A cur cells)(a:Below W.heap.size W W'):Nc W' X pb o n kd l i m c A cur cells:=h.turn (Turn.below X a)
def Nc.ss(h:Nc W X pb o n kd l i m c A cur cells):SS W A m cells:=SS.Ed h.row
def Nc.at5(h:Nc W X pb o n kd l i m c A cur cells):W.cell? ⟨pb,o,none⟩=some (.int .i64 n)/\W.cell? ⟨pb,o+1,none⟩=some (.int .i64 kd)/\W.cell? ⟨pb,o+2,none⟩=some (.int .i64 l)/\W.cell? ⟨pb,o+3,none⟩=some (.slice A m c)/\W.cell? ⟨pb,o+4,none⟩=some (.int .i64 i) :=
 ⟨(h.hb.cell _).trans h.c0,(h.hb.cell _).trans h.c1,(h.hb.cell _).trans h.c2,(h.hb.cell _).trans h.c3,(h.hb.cell _).trans h.c4⟩
def Nc.put (h:Nc W X pb o n kd l i m c A cur cells) {a c':Nat} {A':Option Addr} {cells':List ByteArray} (d:Has W' pb 122 cur) (e:o+3<cur.size) (f:W'.ownsRow 0 9 1 (.slice A' a c') a (strs cells')) (b:∀ g,(Value.slice A' a c').ownBlock=some g->some g∉X/\g≠pb) :
 Nc (W'.setCell ⟨pb,o+3,none⟩ (.slice A' a c')) X pb o n kd l i a c' A' (cur.setIfInBounds (o+3) (.slice A' a c')) cells':=by
 refine⟨d.set _ _, ?_, ?_, ?_, ?_, ?_,h.nb,Bo f λg j=>CX _ _ _ _ (b g j).2,b⟩
 ·rw[NF,AO (by omega)];exact h.c0
 ·rw[NF,AO (by omega)];exact h.c1
 ·rw[NF,AO (by omega)];exact h.c2
 ·rw[NF,AC rfl,AC e]
 ·rw[NF,AO (by omega)];exact h.c4
end
def rG:∀ {ss:List Stp} {rs:List Ad} {j:Nat} {s s':Stp} {a a':Ad},ss[j]? = some s->rs[j]? = some a->s'.n=s.n->s'.pg.1=s.pg.1->s'.pg.2.1=s.pg.2.1->s'.i=s.i->I4 (ss.set j s') (rs.set j a')=(I4 ss rs).set (5*j+3) (JF s' a')
 | t :: ss,b :: rs,0,s,s',a,a',h1,h2,e1,e2,e3,e4=>by
   have f1:t=s:=by simpa using h1
   subst f1;simp only[EF,I4,JE,e1,e2,e3,e4];rfl
 | t :: ss,b :: rs,j+1,s,s',a,a',h1,h2,e1,e2,e3,e4=>by
   rw[EH,EH,I4,I4,rG (by simpa using h1) (by simpa using h2) e1 e2 e3 e4];rw[VK _ _ (by simp[JE];omega)];rw[show 5*(j+1)+3-(JE t b).length=5*j+3 by simp[JE];omega]
 | [],_,_,_,_,_,_,h1,_,_,_,_,_=>by simp at h1
 | _ :: _,[],_,_,_,_,_,_,h2,_,_,_,_=>by simp at h2
section
variable {w w':World} {X X':List (Option Nat)} {base:Nat} {v:Value} {ss:List Stp} {rs:List Ad}
def Nq.step(h:Nq w X base v ss rs){j:Nat}{s:Stp}(c:ss[j]? = some s):∃ pb cap cur a,v = .slice (some ⟨pb,0,none⟩) ss.length cap/\rs[j]? = some a/\base<=pb/\5*ss.length<=cur.size/\Nc w X pb (5*j) s.n s.pg.1 s.pg.2.1 s.i s.pg.2.2.length a.2 a.1 cur s.pg.2.2:=by
 have o:j<ss.length:=(C9.1 c).1
 have b:j<rs.length:=by rw[h.rows.len];exact o
 rcases h.own.2 with⟨_,y⟩ |⟨g,cap,cur,d,p,r,t,z,u,x⟩
 ·omega
 ·have f:rs[j]? = some rs[j]:=DK b
  have get:∀ q,q<5->cur[5*j+q]? = (JE s rs[j])[q]? := λq k=>by
   rw[<- pO c f q k,<- x,GZ,AC (by omega),nU]
  have m:=h.rows.row j s rs[j] c f;refine⟨g,cap,cur,rs[j],d,f,p,by rw[u];have:=Aa2 5 t;omega,⟨r,get 0 (by omega),get 1 (by omega),get 2 (by omega),get 3 (by omega),get 4 (by omega),h.out g (by rw[d];rfl),own_base m (BR _),λq k=>?_⟩⟩
  have l:EO rs[j]=some q:=by rw[<- Ii s rs[j]];exact k
  exact⟨h.rows.out _ (EI b) q l,λe=>h.off _ (EI b) q l (by rw[d,e];rfl)⟩
def Nq.back {pb cap j n kd l i c m:Nat} {cur:Array Value} {A A':Option Addr} {c':Nat} {cells cells':List ByteArray} (h:Nq w X base (.slice (some ⟨pb,0,none⟩) ss.length cap) ss rs) (Q:ss[j]? = some ⟨n,(kd,l,cells),i⟩) (H:rs[j]? = some (A,c)) (r:cells.length=m)
 (k:Nc w' X' pb (5*j) n kd l i cells'.length c' A' (cur.setIfInBounds (5*j+3) (.slice A' cells'.length c')) cells') (h0:Nc w X pb (5*j) n kd l i m c A cur cells)
 (R:Turn (some pb :: (Value.slice A m c).ownBlock :: X) (some pb :: (Value.slice A' cells'.length c').ownBlock :: X') w w') (J:∀ g,(Value.slice A' cells'.length c').ownBlock=some g->(Value.slice A m c).ownBlock=some g\/w.heap.size<=g) (ad:base<=w.heap.size) :
 Nq w' X' base (.slice (some ⟨pb,0,none⟩) ss.length cap) (ss.set j ⟨n,(kd,l,cells'),i⟩) (rs.set j (A',c')):=by
 subst r;have S:j<ss.length:=(C9.1 Q).1
 have K:j<rs.length:=by rw[h.rows.len];exact S
 have L:EO (A,c)=(Value.slice A cells.length c).ownBlock:=(Ii ⟨n,(kd,l,cells),i⟩ (A,c)).symm;have F:EO (A',c')=(Value.slice A' cells'.length c').ownBlock:=(Ii ⟨n,(kd,l,cells'),i⟩ (A',c')).symm
 have x:∀ q b g,rs[q]? = some b->q≠j->EO b=some g->w'.heap[g]? = w.heap[g]? /\ some g∉X'/\g<w.heap.size/\some g≠EO (A',c'):=λq b g f Z o=>by
  have G:=F5 f;have l1:=h.rows.lt b G g o;have n1:g≠pb:=λe=>h.off b G g o (by rw[e];rfl);have n2:(Value.slice A cells.length c).ownBlock≠some g:=λe=>Z (h.rows.one q j b (A,c) g f H o (by rw[L];exact e))
  have y:some g∉(some pb :: (Value.slice A cells.length c).ownBlock :: X):=λr=>by
   rcases BI.1 r with e | r
   ·exact n1 (CV e)
   ·rcases BI.1 r with e | r
    ·exact n2 e.symm
    ·exact h.rows.out b G g o r
  refine⟨R.block g l1.2 y,λr=>?_,l1.2,λe=>?_⟩
  ·exact R.out y l1.2 (BF _ (BF _ r))
  ·rw [F] at e
   rcases J g e.symm with u | u
   ·exact n2 u
   ·omega
 have U:∀(q:Nat) (t:Stp) (b:Ad),(ss.set j ⟨n,(kd,l,cells'),i⟩)[q]? = some t->(rs.set j (A',c'))[q]? = some b->(q=j/\t=⟨n,(kd,l,cells'),i⟩/\b=(A',c'))\/(q≠j/\ss[q]? = some t/\rs[q]? = some b):=λq t b p a=>by
  by_cases e:q=j
  ·subst e;rw[Aa7 S]at p;rw[Aa7 K]at a;exact .inl ⟨rfl,(CV p).symm,(CV a).symm⟩
  ·rw [VN (λu=>e u.symm)] at p a;exact .inr ⟨e,p,a⟩
 have v:∀(q:Nat) (b:Ad),(rs.set j (A',c'))[q]? = some b->(q=j/\b=(A',c'))\/(q≠j/\rs[q]? = some b):=λq b a=>by
  by_cases e:q=j
  ·subst e;rw[Aa7 K]at a;exact .inl ⟨rfl,(CV a).symm⟩
  ·rw [VN (λu=>e u.symm)] at a;exact .inr ⟨e,a⟩
 have E:∀ g,EO (A',c')=some g->some g∉X'/\g≠pb/\base<=g:=λg d=>by
  rw[F]at d;refine⟨(k.rx g d).1,(k.rx g d).2, ?_⟩
  rcases J g d with e | e
  ·exact(h.rows.lt (A,c) (F5 H) g (by rw[L];exact e)).1
  ·omega
 refine⟨?_,⟨by simp[h.rows.len],λq t b p a=>?_,λb o g d=>?_,λq z b b' g p a B C=>?_⟩,λg d=>?_,λb o g d e=>?_⟩
 ·rcases h.own.2 with ⟨_,h9⟩ | ⟨g,V,W,hv,o,d,y,hc,hz,aa⟩
  ·omega
  ·have s:pb=g/\cap=V:=by
    injection hv with s _ e3
    injection s with s
    injection s with s
    exact⟨s,e3⟩
   obtain⟨rfl,rfl⟩:=s
   have Y:W=cur:=by
    have q1:w.heap[pb]? = _:=d;have D:w.heap[pb]? = _:=h0.hb;rw[q1]at D
    injection D with D
    injection D
   subst Y;rw[rG (s':=⟨n,(kd,l,cells'),i⟩) (a':=(A',c')) Q H rfl rfl rfl rfl,MX];refine⟨by rw[MX];exact h.own.1,.inr ⟨pb,cap,_,rfl,o,k.hb,y,hc,by simpa using hz, ?_⟩⟩;rw[YO,mW,aa];rfl
 ·rcases U q t b p a with ⟨rfl,rfl,rfl⟩ | ⟨f,p,a⟩
  ·exact BO1 k.row λg d=>(E g (by rw[F];exact d)).2.2
  ·have hr:=h.rows.row q t b p a;exact Bo hr λg d=>(x q b g a f (by rw[<- Ii t b];exact d)).1
 ·obtain ⟨q,f,rfl⟩:=Aa5 o
  rcases v q _ (DK f)with⟨_,e⟩ |⟨M,a⟩
  ·rw[e]at d;exact(E g d).1
  ·exact(x q _ g a M d).2.1
 ·rcases v q b p with ⟨ab,ac⟩ | ⟨f,T⟩
  ·rcases v z b' a with ⟨N,O⟩ | ⟨P,I⟩
   ·rw[ab,N]
   ·rw [ac] at B;exact absurd B.symm (x z b' g I P C).2.2.2
  ·rcases v z b' a with ⟨N,O⟩ | ⟨P,I⟩
   ·rw [O] at C;exact absurd C.symm (x q b g T f B).2.2.2
   ·exact h.rows.one q z b b' g T I B C
 ·have e:g=pb:=(CV d).symm;subst e;exact k.nb
 ·have s:pb=g:=CV e;obtain⟨q,f,rfl⟩:=Aa5 o
  rcases v q _ (DK f)with⟨_,u⟩ |⟨M,a⟩
  ·rw[u]at d;exact(E g d).2.1 s.symm
  ·exact h.off _ (F5 a) g d e
end
section
variable {w:World} {X:List (Option Nat)} {tb p root c k pb o mu cu c0:Nat} {Au A0:Option Addr} {cur:Array Value} {S S0:St} {A B:List Nd} {x:Nd} {Ds:List (List Nd)} {u:CY} {ups:List CY}
def JE1 (a:Pnd S.G root Ds A x B (u :: ups)) (T:Ak (body Ds.isEmpty x.its)<180) :
 (∃ b l A',u.U=b++[Dx l]/\A=A'++[l]/\Pair S.G x.n root Ds A' l x B { u with U:=b } ups/\S.G l.n=BM Ds.isEmpty (x :: B) l/\Ak (body Ds.isEmpty (l.its++x.its))<=1404) \/
 (u.U=[]/\∃ g l c,u.V=Dx l :: g/\B=l :: c/\Pair S.G x.n root Ds A x l c { u with V:=g } ups/\S.G l.n=BM Ds.isEmpty c l/\Ak (body Ds.isEmpty (x.its++l.its))<=1404):=by
 have D:∀ z∈A++x :: B,Ds.isEmpty=false->z.its≠[]:=λz d s e=>by
  have m:Ds≠[]:=by rintro rfl;cases s
  have:=Mc (A:=[]) (M:=A++x :: B) (B:=[]) (by simpa using a.dn) m z d;rw[e]at this;simp at this
 have E:∀ z∈A++x :: B,Ak z.its<=Ak (body Ds.isEmpty z.its)+209:=λz d=>by
  cases s:Ds.isEmpty with
  | true=>exact SY _ _
  | false =>
    have m:Ds≠[]:=by rintro rfl;cases s
    have I:=Mc (A:=[]) (M:=A++x :: B) (B:=[]) (by simpa using a.dn) m z d
    cases J:z.its with
    | nil=>exact BR _
    | cons i cs =>
      rw[J]at I
      have L:i.k=z.lo:=by simpa using I
      have W:=a.dn.RZ0 z d
      have N:i.r.length=4:=by
       obtain⟨O,A2,e⟩:=TI d
       have f:BP S.G x.n root (O++z :: A2) Ds:=by rw[<- e];exact a.dn
       exact(f.sz (x:=z) (by simp) (i:=i) (by rw[J];exact AZ)).2.2 m
      rw[Dn];show CO i+Ak cs<=Ak cs+209;unfold CO;rw[L,N];omega
 have C:∀ z∈A++x :: B,z.n≠x.n->Ak (body Ds.isEmpty z.its)<=1012:=λz d P=>(a.dn.fits z d P).le
 by_cases t:u.U=[]
 ·refine .inr ⟨t, ?_⟩
  have o:=(a.abv.1.fit u.y (BC _ AZ) (λe=>by
   have F:=a.nd;unfold Fe at F;have q:=(CZ.1 F).2.2 x.n (Cm (by simp) Ds) u.y.n (BL _ (F6 (BC _ AZ)))
   exact q e.symm)).two rfl
  rw[a.abv.1.its,t]at o
  cases K:u.V with
  | nil=>rw[K]at o;simp at o
  | cons it g =>
    obtain⟨c,l,rfl,v,w⟩:=a.right K;subst v
    have p:BP S.G x.n root (A++[x,l]++c) Ds:=by have:=a.dn;simpa using this
    have pr:Pair S.G x.n root Ds A x l c { u with V:=g } ups:=⟨p,w,a.abv.2,by have:=a.nd;simpa[Fe,Zq,CY.lv]using this,.inl rfl⟩
    obtain⟨j,_,_⟩:=pr.lr;refine⟨g,l,c,rfl,rfl,pr, ?_, ?_⟩
    ·have f:BP S.G x.n root ((A++[x])++l :: c) Ds:=by have:=a.dn;simpa using this
     exact f.vW (λe=>j e.symm)
    ·rw [iR (D x (by simp)),Ff];have Q:=E l (by simp);have R:=C l (by simp) (λe=>j e.symm);omega
 ·left
  obtain⟨b,it,H⟩:∃ b it,u.U=b++[it]:=by
   rcases dJ u.U with h |⟨b,it,h⟩
   ·exact absurd h t
   ·exact⟨b,it,by simpa using h⟩
  obtain⟨A',l,rfl,v,w⟩:=a.left H;subst v
  have p:BP S.G x.n root (A'++[l,x]++B) Ds:=by have:=a.dn;simpa using this
  have pr:Pair S.G x.n root Ds A' l x B { u with U:=b } ups:=⟨p,w,a.abv.2,by have:=a.nd;simpa[Fe,Zq,CY.lv]using this,.inr rfl⟩
  obtain⟨j,_,_⟩:=pr.lr;refine⟨b,l,A',H,rfl,pr, ?_, ?_⟩
  ·have f:BP S.G x.n root (A'++l :: (x :: B)) Ds:=by have:=a.dn;simpa using this
   exact f.vW j
  ·rw [iR (D l (by simp)),Ff];have Q:=E x (by simp);have R:=C l (by simp) j;omega
def qG{S:St}(c:GY S)(f:Pnd S.G root Ds A x B ups)(own:∀ q∈Fe (A++x :: B) Ds ups,0<q/\q<S.q/\q∉S.fr):(BM Ds.isEmpty B x).2.1<=2147483647/\((BM Ds.isEmpty B x).1=1\/(BM Ds.isEmpty B x).1=2):=by
 have k:=c.few
 cases Ds with
 | nil =>
   refine⟨?_,.inl rfl⟩;show hdN B 0<=_
   cases g:B with
   | nil=>exact BR _
   | cons b l =>
     have:=(own b.n (BL _ (Cm (by rw[g];simp) []))).2.1;show b.n<=_;omega
 | cons D t =>
   refine⟨?_,.inr rfl⟩;show Gi (x.its.headD ⟨[],[]⟩).r<=_
   cases h:x.its with
   | nil=>show Gi []<=_;decide
   | cons i cs =>
     have a:i∈(A++x :: B).flatMap (·.its):=MG.2 ⟨x,by simp,by rw[h];exact AZ⟩;rw[f.dn.1.its]at a;obtain⟨d,j,e⟩:=DI.1 a;have:=(own d.n (BL _ (BC _ (Cm j t)))).2.1;show Gi i.r<=_;rw[<- e];show Gi (Ba d.n)<=_;rw[Ha (by omega)];omega
def JA1 {S:St} (b:Pnd S.G root Ds A x B ups) (c:180<=Ak (body Ds.isEmpty x.its)) (i:Ak (body Ds.isEmpty x.its)<=1012) :
 ∃ d a,NH (S.set x.n (BM Ds.isEmpty B x)).G root d a/\Jd [d] a=Jd (A++x :: B) Ds/\Mv S (S.set x.n (BM Ds.isEmpty B x)) (Fe (A++x :: B) Ds ups) (Gl [d] a):=by
 have h:La Ds.isEmpty root x:=by
  refine⟨i,λ_=>c,λj=>?_⟩;rw[j]at c
  have k:x.its.drop 1≠[]:=λe=>by
   have g:Ak (x.its.drop 1)=0:=by rw[e];rfl
   have m:180<=Ak (x.its.drop 1):=c;omega
  have g:=QY.2 k;rw[DJ]at g;omega
 obtain⟨l,f⟩:=qO b.dn b.abv b.nd h;exact⟨_,_,DK1 l f,Xt f,(Mv.set (BL _ (Cm (by simp) Ds)) _).perm (MZ _) (UL f)⟩
def PA0 (h:PT w X p S S0 c k) (t:TM w X tb p root) (v:c+10<=60000) (z:k<=800000000) (C:Pnd S.G root Ds A x B (u :: ups)) (J:Ak (body Ds.isEmpty x.its)<180)
 (own:∀ q∈Fe (A++x :: B) Ds (u :: ups),0<q/\q<S.q/\q∉S.fr)
 (D:Es w X pb o u.y.n (Gi (u.y.its.headD ⟨[],[]⟩).r) u.U.length mu cu Au cur ((u.y.its.drop 1).map Af)) (E:o<=1000) (g:o+3<cur.size)
 (i:SS w A0 (BM Ds.isEmpty B x).2.2.length (BM Ds.isEmpty B x).2.2) (j:∀ a,A0=some a->some a.block∉X/\a.block<w.heap.size) :
 Calls Tryz.prog 145 #[.pointer (some ⟨tb,0,none⟩),.pointer (some ⟨pb,o,none⟩),.agg #[.int .i64 x.n,.int .i64 (BM Ds.isEmpty B x).1,.int .i64 (BM Ds.isEmpty B x).2.1,.slice A0 (BM Ds.isEmpty B x).2.2.length c0]] w
  (ZR w X p pb o u ups u.U.length (.slice Au mu cu) cur S S0 root (c+3) (k+5) Ds.length (Fe (A++x :: B) Ds (u :: ups)) (Jd (A++x :: B) Ds)):=by
 have m:u.y.n≠x.n:=λe=>by
  have s:=C.nd;unfold Fe at s;have q:=(CZ.1 s).2.2 x.n (Cm (by simp) Ds) u.y.n (BL _ (F6 (BC _ AZ)));exact q e.symm
 rcases JE1 C J with⟨K,l,A',F,rfl,pr,b,d⟩ |⟨H,L,l,I,F,rfl,pr,b,d⟩
 ·have f:A'++[l]++x :: B=A'++[l,x]++B:=by simp
  rw[f]at own ⊢;exact Yp (u:={ u with U:=K }) h t v z pr own d D E g i j (.inl ⟨by rw[F,A8];rfl,rfl,rfl,b⟩) m
 ·have f:A++x :: l :: I=A++[x,l]++I:=by simp
  rw[f]at own ⊢;exact Yp (u:={ u with V:=L }) h t v z pr own d D E g i j (.inr ⟨by rw[H];rfl,by show u.U.length=0;rw[H];rfl,rfl,rfl,b⟩) m
end
def CF1{U V:List It}{a:It}(e:It):(((U++[a]++V).drop 1).map Af).take U.length++Af e :: (((U++[a]++V).drop 1).map Af).drop U.length=((U++[a,e]++V).drop 1).map Af:=by
 cases U with
 | nil=>rfl
 | cons i U =>
   simp only[F7,IC,GV,DF,BU,D9,DW]
   have b:∀(l:List ByteArray) (x z:ByteArray) (m:List ByteArray) (n:Nat),n=l.length->(l++x :: m).take (n+1)++z :: (l++x :: m).drop (n+1)=l++x :: z :: m:=by
    intro l x z m n c;subst c
    have d:l.length+1-l.length=1:=by omega
    rw[List.take_append,nK,EE (by omega),IY (by omega),d];simp
   exact b (U.map Af) (Af a) (Af e) (V.map Af) U.length (BZ _).symm
def RX0 {S:St} {root:Nat} {A B:List Nd} {x:Nd} {Ds:List (List Nd)} {ups:List CY} (E:GY S) (w:Pnd S.G root Ds A x B ups) (own:∀ q∈Fe (A++x :: B) Ds ups,0<q/\q<S.q/\q∉S.fr) (H:1012<Ak (body Ds.isEmpty x.its)) :
 ∃ c y Y kd l l2 cl cr,x.its.take (F8 Ds.isEmpty x.its)=c/\x.its.drop (F8 Ds.isEmpty x.its)=y :: Y/\BM Ds.isEmpty B x=(kd,l,(body Ds.isEmpty x.its).map Af)/\(kd=1\/kd=2) /\
   (∀ tv W A0 c0,SS W A0 ((body Ds.isEmpty x.its).map Af).length ((body Ds.isEmpty x.its).map Af)->((body Ds.isEmpty x.its).map Af).length<=c0->c0<=9223372036854775807->Calls Tryz.prog 143 #[tv,.agg #[.int .i64 x.n,.int .i64 kd,.int .i64 l,.slice A0 ((body Ds.isEmpty x.its).map Af).length c0]] W (WM W x.n kd l l2 (AQ y.k) cl cr)) /\
   (∀ m,(kd=1->BM Ds.isEmpty (⟨m,y.k,y :: Y⟩ :: B) ⟨x.n,x.lo,c⟩=(1,m,cl))/\(kd=2->BM Ds.isEmpty (⟨m,y.k,y :: Y⟩ :: B) ⟨x.n,x.lo,c⟩=(2,l,cl))/\BM Ds.isEmpty B ⟨m,y.k,y :: Y⟩=(kd,l2,cr))/\Ce cl<=1012/\Ce cr<=1012/\y.k.length<=200/\l<=2147483647/\l2<=2147483647:=by
 obtain⟨f,L⟩:=xC w;have I:=UQ f;have F:=w.le;have Q:=E.few;have z:=qG E w own
 cases Ds with
 | nil =>
   have K:Ak x.its<=1256:=F;have s:1012<Ak x.its:=H;obtain⟨c,y,Y,g,j,p,N⟩:=UE (b:=true) s (by show Ak x.its<=1404;omega) (λi o=>(f i o).1)
   have hits:x.its=c++y :: Y:=by rw[<- g,<- j,DX]
   refine⟨c,y,Y,1,hdN B 0,hdN B 0,c.map Af,(y :: Y).map Af,g,j,rfl,.inl rfl,λtv W A0 c0 v u C=>?_,λm=>⟨λ_=>rfl,λh=>by omega,rfl⟩,by rw[Ew];exact p.l2,by rw[Ew];exact p.r2,(f y (by rw[hits];simp)).2,z.1,z.1⟩;have e:body ([]:List (List Nd)).isEmpty x.its=x.its:=rfl;rw[e]at v u ⊢;exact Tq tv v I s (by omega) (λi o=>(f i o).1) u C g j
 | cons D t =>
   have K:Ak (x.its.drop 1)<=1256:=F;have s:1012<Ak (x.its.drop 1):=H;obtain⟨c,y,Y,g,j,p,N⟩:=UE (b:=false) s (by show Ak (x.its.drop 1)<=1404;omega) (λi o=>(f i (JV o)).1)
   have hits:x.its=c++y :: Y:=by rw[<- g,<- j,DX]
   have O:c.headD ⟨[],[]⟩=x.its.headD ⟨[],[]⟩:=by
    rw[hits]
    cases c with
    | nil=>exact absurd rfl p.ne.1
    | cons a b=>rfl
   have M:Gi y.r<=2147483647:=by
    have J:y∈(A++x :: B).flatMap (·.its):=MG.2 ⟨x,by simp,by rw[hits];simp⟩;rw[w.dn.1.its]at J;obtain⟨d,P,e⟩:=DI.1 J;have:=(own d.n (BL _ (BC _ (Cm P t)))).2.1;rw[<- e];show Gi (Ba d.n)<=_;rw[Ha (by omega)];omega
   refine⟨c,y,Y,2,Gi (x.its.headD ⟨[],[]⟩).r,Gi y.r,(c.drop 1).map Af,Y.map Af,g,j,rfl,.inr rfl,λtv W A0 c0 v u C=>?_,λm=>⟨λh=>by omega,λ_=>?_,rfl⟩,by rw[Ew];exact p.l2,by rw[Ew];exact p.r2,(f y (by rw[hits];simp)).2,z.1,M⟩
   ·have e:body (D :: t).isEmpty x.its=x.its.drop 1:=rfl;rw[e]at v u ⊢;exact Qv tv v I s (by omega) (λi o=>(f i (JV o)).1) u C (L (by simp)) g j
   ·show FX ⟨x.n,x.lo,c⟩=_;unfold FX;show(2,Gi (c.headD ⟨[],[]⟩).r,(c.drop 1).map Af)=_;rw[O]
def gJ (pb o ui b d n c lo:Nat) (A:Option Addr) (K F a:ByteArray):Nat->Value->World->Prop
 | 0,v,_=>v = .pointer (some ⟨pb,o,none⟩)
 | 1,v,_=>v = .pointer (some ⟨pb,o,none⟩)
 | 2,v,_=>v = .pointer (some ⟨pb,o,none⟩)
 | 3,v,_=>v = .pointer (some ⟨pb,o,none⟩)
 | 4,v,_=>v = .pointer (some ⟨pb,o+1,none⟩)
 | 5,v,_=>v = .pointer (some ⟨pb,o+3,none⟩)
 | 6,v,_=>v = .slice A n c
 | 7,v,_=>v = .pointer (some ⟨pb,o,none⟩)
 | 8,v,_=>v = .pointer (some ⟨pb,o,none⟩)
 | 9,v,_=>v = .pointer (some ⟨pb,o+4,none⟩)
 | 10,v,_=>v = .int .i64 ui
 | 11,v,_=>v = .string K
 | 12,v,_=>v = .pointer (some ⟨b,0,none⟩)
 | 13,v,_=>v = .int .i64 d
 | 14,v,_=>v = .string F
 | 15,v,_=>v = .string a
 | 16,v,w=>∃ g,v = .slice (some ⟨g,0,none⟩) 1 1/\Has w g 9 #[.string a]/\lo<=g
 | _,_,_=>True
def SP0 (pb o ui a b n c lo:Nat) (A:Option Addr) (K F d:ByteArray):∀ j v (w w':World),Below w.heap.size w w'->gJ pb o ui a b n c lo A K F d j v w->gJ pb o ui a b n c lo A K F d j v w'
 | 0,_,_,_,_,h=>h
 | 1,_,_,_,_,h=>h
 | 2,_,_,_,_,h=>h
 | 3,_,_,_,_,h=>h
 | 4,_,_,_,_,h=>h
 | 5,_,_,_,_,h=>h
 | 6,_,_,_,_,h=>h
 | 7,_,_,_,_,h=>h
 | 8,_,_,_,_,h=>h
 | 9,_,_,_,_,h=>h
 | 10,_,_,_,_,h=>h
 | 11,_,_,_,_,h=>h
 | 12,_,_,_,_,h=>h
 | 13,_,_,_,_,h=>h
 | 14,_,_,_,_,h=>h
 | 15,_,_,_,_,h=>h
 | 16,_,_,_,hb,⟨g,e,h,l⟩=>⟨g,e,h.Ai hb,l⟩
 | _+17,_,_,_,_,_=>trivial
end Go.Proofs.YtjihboddejaelaaGreat
namespace Go.Proofs.YtjihboddejaelaaGreat
open Go.RowKit
attribute [local go_sem] Ea Bz
section
variable {P:Program} {md:Region.Mode} {Q:Exit->Act->World->Prop}
def QP(md:Region.Mode)(m:Nat)(l:List Oper):Bool :=
 WW md 0 l && (List.range l.length).all λk=>decide (k<m) ||(List.range k).all λj=>decide (j=0) || waits md l k j
def Qg{md:Region.Mode}{m:Nat}{l:List Oper}(h:QP md m l=true){i:Nat}{o:Oper}(a:l[i]? = some o){e:Edge}(b:e∈o.after)(c:Region.binds md e=true):e.on<i:=by
 simp only[QP,QA]at h;have:=lQ h.1 i o a e b c;omega
def yZ{md:Region.Mode}{m:Nat}{l:List Oper}(h:QP md m l=true){k j:Nat}(c:k<l.length)(e:m<=k)(d:j<k)(b:j≠0):waits md l k j=true:=by
 simp only[QP,QA,VR,cO,YK,lV]at h
 rcases h.2 k c with a | a
 ·omega
 ·exact(a j d).resolve_left b
def QQ0{md:Region.Mode}{m:Nat}{l:List Oper}(c:QP md m l=true):∀{k j:Nat},k<j->j<l.length->waits md l k j=false:=by
 intro k
 induction k using Nat.strongRecOn with
 | _ k d =>
   intro j o f
   cases g:waits md l k j with
   | false=>rfl
   | true =>
     exfalso
     have a:l[k]? = some l[k]:=by simp
     obtain⟨e,i,n,h⟩:=Kq a g;have b:=Qg c a i n
     rcases h with h |⟨_,h⟩
     ·omega
     ·rw[d e.on b (by omega) f]at h;cases h
def Za {ops:Array Oper} {m:Nat} (f:QP md m ops.toList=true) (C:0<m):∀ (c:List Oper) (k:Nat) (a:Array Bool) (b:Act) (w:World),m<=k->a.size=ops.size->(∀ j,j<k->a.getD j false=true) ->
 (∀ j,k<=j->j<ops.size->a.getD j true=false)->c=ops.toList.drop k->wpList P ops Q c b w->wpAny P md ops Q c.length a b w
 | [],k,a,b,w,_,hs,ht,_,hr,h=>by
   refine⟨?_,h⟩
   have N:ops.size<=k:=by
    have:=D8 List.length hr;simp at this;omega
   apply List.eq_nil_iff_forall_not_mem.2;intro j u;obtain⟨n,o,H,_⟩:=MB.1 u;have r:j<ops.size:=(LK.1 H).1;have:=ht j (by omega);rw[getD_lt (by omega)]at n this
   rw[n]at this;cases this
 | o :: c,k,a,b,w,hm,hs,ht,hf,hr,h=>by
   have r:k<ops.size:=by
    have:=D8 List.length hr;simp at this;omega
   have s:ops[k]? = some o:=by
    have:(ops.toList.drop k)[0]? = some o:=by rw[<- hr];rfl
    simpa using this
   have z:c=ops.toList.drop (k+1):=by
    have:=D8 List.tail hr;simpa using this
   have x:k∈Region.ready md ops a:=MB.2 ⟨hf k (AY _) r,o,s,λe p q=>ht _ (by
    exact Qg f (i:=k) (o:=o) (by simpa using s) p q)⟩
   refine⟨(λn=>by rw[n]at x;cases x),λi I=>?_⟩;obtain⟨y,oi,t,A⟩:=MB.1 I;have B:i<ops.size:=(LK.1 t).1
   have L:¬ i<k:=λg=>by
    have:=ht i g;rw[getD_lt (by omega)]at y this
    rw[y]at this;cases this
   have M:¬ k<i:=λg=>by
    obtain⟨e,p,q,D⟩:=Kq (by simpa using t) (yZ f (k:=i) (j:=k) (by simpa using B) (by omega) g (by omega));have l:=A e p q
    have E:e.on<ops.size:=by have:=Qg f (i:=i) (o:=oi) (by simpa using t) p q;omega
    have F:k<=e.on:=by
     rcases D with d |⟨_,d⟩
     ·omega
     ·rcases JR e.on k with v | v
      ·exact absurd d (by rw[QQ0 f v r];simp)
      ·exact v
    have d:=hf e.on F E;rw[getD_lt (by omega)]at l d
    rw[l]at d;cases d
   obtain rfl:i=k:=by omega
   have J:wpOp P ops Q i (wpList P ops Q c) b w:=by
    unfold wpOp;rw[s];exact h
   refine wpOp_mono (λa' w' g=>?_) J;refine Za f C c (i+1) _ a' w' (by omega) (by simpa using hs) (λj u=>?_) (λj u G=>?_) z g
   ·rw [Dt]
    split
    ·rfl
    ·rename_i K
     exact ht j (by
      rcases JR j i with l | l
      ·exact l
      ·exact absurd ⟨by omega,by omega⟩ K)
   ·rw [Dt];rw[AO (by omega)];exact hf j (by omega) G
def ZG0 {l1 l2:List Oper} {a:Act} {C:World->Prop} {PP:Nat->Value->World->Prop} {own:Nat->Value->Option Nat} (am:∀ j u w,PP j u w->∀ b,own j u=some b->b<w.heap.size) (a0:∀ j,own j undef=none) (hd:Jk l1=true) (M:QP md l1.length (l1++l2)=true) (ap:0<l1.length)
 (hC:∀ w w',C w->Below w.heap.size w w'->C w') (a4:∀ j u w w',Below w.heap.size w w'->PP j u w->PP j u w')
 (a1:∀ (d:List Value) (w:World),d.length=l1.length->C w->∀ i o,l1[i]? = some o->(∀ j,(o.after.toList.any λe=>Region.binds md e && e.on == j)=true->PP j (d.getD j undef) w) ->
   Ea P (l1++l2).toArray PP own i o (Bq l1 d a) w)
 (an:∀(d:List Value) (w:World),d.length=l1.length->C w->(∀ j,j<l1.length->PP j (d.getD j undef) w)->(∀ i j b,i<l1.length->j<l1.length->i≠j->own i (d.getD i undef)=some b->own j (d.getD j undef)≠some b)->wpList P (l1++l2).toArray Q l2 (Bq l1 d a) w) :
 ∀ (z:Nat) (c:Array Bool) (d:List Value) (w:World),c.getD 0 true=true->c.size=l1.length+l2.length->c.toList.count false=z->d.length=l1.length->C w ->
   (∀ j,j<l1.length->c.getD j true=true->PP j (d.getD j undef) w)->(∀ j,l1.length<=j->j<l1.length+l2.length->c.getD j true=false) ->
   (∀ q o,(l1++l2)[q]? = some o->c.getD q true=true->∀ e∈o.after,Region.binds md e=true->c.getD e.on false=true) ->
   (∀ i j b,i<l1.length->j<l1.length->i≠j->c.getD i true=true->c.getD j true=true->own i (d.getD i undef)=some b->own j (d.getD j undef)≠some b) ->
   wpAny P md (l1++l2).toArray Q z c (Bq l1 d a) w:=by
 intro z
 induction z with
 | zero =>
   intro c d w ad g hc B R E S ae Y
   have r:∀ j,j<c.size->c.getD j true=true:=λj f=>by
    have hn:false∉c.toList:=λhm=>by have:=List.count_pos_iff.2 hm;omega
    rw[getD_lt f]
    cases F:c[j]with
    | true=>rfl
    | false=>exact absurd (by rw[<- F];simp) hn
   have D:l2=[]:=by
    cases l2 with
    | nil=>rfl
    | cons x l =>
      have:=S l1.length (AY _) (by simp);rw[r _ (by rw[g];simp)]at this
      cases this
   subst D;have s:=an d w B R (λj f=>E j f (r j (by rw[g];simp;omega))) (λi j b N f t=>Y i j b N f t (r i (by rw[g];simp;omega)) (r j (by rw[g];simp;omega)))
   have:=Za (P:=P) (Q:=Q) (md:=md) (ops:=(l1++[]).toArray) (m:=l1.length) (by simpa using M) ap [] l1.length c (Bq l1 d a) w (AY _) (by simpa using g)
    (λj f=>by have:=r j (by rw[g];simp;omega);rw[getD_lt (by rw[g];simp;omega)]at this ⊢;exact this)
    (λj f T=>by simp at T;omega) (by simp) s
   exact this
 | succ z ih =>
   intro c d w ad g hc B R E S ae Y;by_cases r:∀ j,j<l1.length->c.getD j true=true
   ·have s:=an d w B R (λj f=>E j f (r j f)) (λi j b N f t=>Y i j b N f t (r i N) (r j f))
    have a2:l2.length=z+1:=by
     rw[<- hc]
     have e:c.toList=List.replicate l1.length true++List.replicate l2.length false:=by
      apply List.ext_getElem
      ·simp[g]
      ·intro j G D
       have f:j<c.size:=by simpa using G
       rw[Aa6]
       split
       ·rename_i I;have:=r j (by simpa using I);rw[getD_lt f]at this;simpa using this
       ·rename_i a5;have:=S j (by simpa using a5) (by rw[<- g];exact f);rw[getD_lt f]at this;simpa using this
     rw[e,JD,YH,YH];simp
    have:=Za (P:=P) (Q:=Q) (md:=md) (ops:=(l1++l2).toArray) (m:=l1.length) (by simpa using M) ap l2 l1.length c (Bq l1 d a) w (AY _) (by simpa using g)
     (λj f=>by have:=r j f;rw[getD_lt (by rw[g];omega)]at this ⊢;exact this)
     (λj f T=>S j f (by simpa using T)) (by simp) s
    rw[a2]at this;exact this
   ·have a6:∃ j,j<l1.length/\c.getD j true=false:=by
     refine FC λt=>r λj f=>?_
     cases F:c.getD j true with
     | true=>rfl
     | false=>exact absurd ⟨j,f,F⟩ t
    have a3:∃ j,j<l1.length/\c.getD j true=false/\∀ q,q<j->c.getD q true=true:=by
     obtain⟨j,f,hf⟩:=a6
     induction j using Nat.strongRecOn with
     | _ j a7 =>
       by_cases h:∀ q,q<j->c.getD q true=true
       ·exact⟨j,f,hf,h⟩
       ·have:∃ q,q<j/\c.getD q true=false:=by
         refine FC λt=>h λq H=>?_
         cases F:c.getD q true with
         | true=>rfl
         | false=>exact absurd ⟨q,H,F⟩ t
        obtain⟨q,H,a8⟩:=this;exact a7 q H (by omega) a8
    obtain⟨k,hk,J,ay⟩:=a3
    have al:(l1++l2).toArray[k]? = some l1[k]:=by simp[G9 hk,hk]
    have aq:k∈Region.ready md (l1++l2).toArray c:=MB.2 ⟨J,l1[k],al,λe s p=>by
     have I:=Qg M (i:=k) (o:=l1[k]) (by simpa using al) s p;have:=ay e.on (by omega);rw[getD_lt (by rw[g];omega)]at this ⊢
     exact this⟩
    refine⟨(λh0=>by rw[h0]at aq;cases aq),λi N=>?_⟩;obtain⟨ar,oi,K,ac⟩:=MB.1 N
    have af:i<l1.length:=by
     rcases JR i l1.length with h | h
     ·exact h
     ·exfalso;have U:i<(l1++l2).length:=(C9.1 (show(l1++l2)[i]? = some oi by simpa using K)).1
      have key:∀ q,q<(l1++l2).length->waits md (l1++l2) q k=true->(c.getD q true=true\/q=i)->False:=by
       intro q
       induction q using Nat.strongRecOn with
       | _ q a9 =>
         intro H hw ba
         have A:(l1++l2)[q]? = some (l1++l2)[q]:=by simp
         obtain⟨e,s,p,bb⟩:=Kq A hw;have I:=Qg M A s p
         have V:c.getD e.on false=true:=by
          rcases ba with G | G
          ·exact ae q _ A G e s p
          ·subst G
           have:(l1++l2)[q]=oi:=by
            have h3:(l1++l2)[q]? = some oi:=by simpa using K
            rw[A]at h3;exact CV h3
           exact ac e (by rw[<- this];exact s) p
         have bc:e.on<c.size:=by rw[g,<- A8];omega
         rcases bb with D |⟨_,D⟩
         ·rw [D] at V;rw[getD_lt (by rw[g];omega)]at V J
          rw[V]at J;cases J
         ·refine a9 e.on I (by omega) D (.inl ?_);rw[getD_lt bc]at V ⊢;exact V
      exact key i U (yZ M U h (by omega) (λe=>by subst e;rw[ad]at J;cases J)) (.inr rfl)
    have ao:l1[i]? = some oi:=by simpa[G9 af]using K
    have O:=a1 d w B R i oi ao (λj f=>by
     obtain⟨q,H,n⟩:=VQ.1 f;simp only[QA,OG]at n;have I:=Qg M (i:=i) (o:=oi) (by simpa using K) (by simpa using H) n.1;have:=ac _ (by simpa using H) n.1;rw[n.2]at this I;refine E j (by omega) ?_;rw[getD_lt (by rw[g];omega)]at this ⊢
     exact this)
    have ax:(c.setIfInBounds i true).toList.count false=z:=by
     have U:i<c.toList.length:=by simp[g];omega
     have F:c.toList[i]=false:=by
      rw[getD_lt (by simpa using U)]at ar;simpa using ar
     rw[YO,List.count_set U,F,hc];simp
    have next:∀ v w',Below w.heap.size w w'->PP i v w'->(∀ b,own i v=some b->w.heap.size<=b)->wpAny P md (l1++l2).toArray Q z (c.setIfInBounds i true) ((Bq l1 d a).put oi.dst v) w':=λv w' p hp Z=>by
     rw[Zt v l1 d i oi a hd B ao];refine ih _ _ w' (by rw[Dt];split;rfl;exact ad) (by simpa using g) ax (by simpa using B) (hC w w' R p) (λj f ag=>?_) (λj f T=>?_) (λq o A ah e s au=>?_) (λx y b hx hy t aa W X L=>?_)
     ·rw [Dt] at ag;by_cases ab:i=j
      ·subst ab
       have:(d.set i v).getD i undef=v:=by simp[List.getD,B,af]
       rw[this];exact hp
      ·rw [AO (by omega)] at ag
       have:(d.set i v).getD j undef=d.getD j undef:=by simp[List.getD,VN ab]
       rw[this];exact a4 j _ w w' p (E j f ag)
     ·rw [Dt,AO (by omega)];exact S j f T
     ·have az:c.getD e.on false=true:=by
       rw[Dt]at ah;by_cases av:i=q
       ·subst av
        have h3:(l1++l2)[i]? = some oi:=by simpa using K
        rw[h3]at A
        cases A
        exact ac e s au
       ·rw [AO (λn=>av n.1)] at ah;exact ae q o A ah e s au
      rw[Dt]
      split
      ·rfl
      ·exact az
     ·rw [Dt] at aa W
      have aw:(d.set i v).getD i undef=v:=by simp[List.getD,B,af]
      have ai:∀ j,i≠j->(d.set i v).getD j undef=d.getD j undef:=λj ab=>by simp[List.getD,VN ab]
      by_cases aj:i=x
      ·subst aj;rw[aw]at X;rw[ai y t]at L;rw[AO (λn=>t n.1)]at W;have G:=Z b X;have D:=am y _ w (E y hy W) b L;omega
      ·rw [ai x aj] at X;rw[AO (λn=>aj n.1)]at aa;by_cases ak:i=y
       ·subst ak;rw[aw]at L;have G:=Z b L;have D:=am x _ w (E x hx aa) b X;omega
       ·rw [ai y ak] at L;rw[AO (λn=>ak n.1)]at W;exact Y x y b hx hy t aa W X L
    unfold wpOp;simp only[K];unfold Ea at O;by_cases hw:Region.wanted oi (yielded (l1++l2).toArray (Bq l1 d a).tmps)=true
    ·rw [AC hw] at O ⊢;refine .inl (Oper.wp_mono (λa' w' n=>?_) (Ya O))
     obtain⟨v,rfl,p,hp,Z⟩:=n;exact next v w' p hp Z
    ·rw [AO hw] at O ⊢
     exact next undef w (AU _ _) O (λb p=>by rw[a0]at p;cases p)
def Tf {T:Nat} {a:Act} {w:World} {d:Oper} {r:List Oper} (m:Nat) (g:Value) (C:World->Prop) (PP:Nat->Value->World->Prop) (U:P.follows .mixedOrders=true) (V:Jk (d :: r.take m)=true) (W:QP .any (d :: r.take m).length (d :: r)=true)
 (G:Region.noSelect (d :: r).toArray=true) (F:Region.free .any (d :: r).toArray (Array.replicate (d :: r).length false) 0=true) (z:(Region.ready .any (d :: r).toArray (Array.replicate (d :: r).length false)).contains 0=true)
 (X:∀ w w',C w->Below w.heap.size w w'->C w') (L:∀ j u w w',Below w.heap.size w w'->PP j u w->PP j u w') (Y:C { w with drawn:=w.drawn+1 })
 (Z:∀ c a' w,Q (.panic c) (a'.put d.dst g) w->Q (.panic c) a' w) (hy:Yields P (d :: r).toArray d g a) (M:∀ w,PP 0 g w)
 (H:∀(f:List Value) (w:World),f.length=(d :: r.take m).length->C w->Zf P (d :: r).toArray PP NV (Bq (d :: r.take m) f a) f w 0 (d :: r.take m))
 (I:∀(f:List Value) (w:World),f.length=(d :: r.take m).length->C w->Jc PP w 0 f->wpList P (d :: r).toArray Q (r.drop m) (Bq (d :: r.take m) f a) w) :
 (Code.region T (d :: r).toArray true).wp P Q a w:=by
 have l:d :: r.take m++r.drop m=d :: r:=by rw[F7,DX]
 have D:∀(f:List Value),f.length=(d :: r.take m).length->Bq (d :: r.take m) f (a.put d.dst g)=Bq (d :: r.take m) f a:=λf x=>by
  cases f with
  | nil=>simp at x
  | cons u f=>show Bq (r.take m) f ((a.put d.dst g).put d.dst u)=Bq (r.take m) f (a.put d.dst u);rw[dZ]
 obtain⟨f,x,hf⟩:=Xo (r.take m) (a.put d.dst g)
 have N:Bq (d :: r.take m) (g :: f) (a.put d.dst g)=a.put d.dst g:=by
  show Bq (r.take m) f ((a.put d.dst g).put d.dst g)=_;rw[dZ,hf]
 refine wp_region_any U ?_
 have O:(d :: r).toArray.size=r.length+1:=by simp
 rw[O];refine wpAny_take (i:=0) (oi:=d) (v:=g) (by simp) G (by have:=F;simpa using this) (by have:=z;simpa using this) Z hy ?_
 have J:∀ e∈d.after,Region.binds .any e=true->False:=λe y n=>by
  have h:0∈Region.ready .any (d :: r).toArray (Array.replicate (d :: r).length false):=by simpa using z
  obtain⟨_,o,ho,K⟩:=MB.1 h
  have:o=d:=by simpa using ho.symm
  subst this;have k:=K e y n
  rcases JR e.on (o :: r).length with p | p
  ·rw [getD_lt (by simpa using p)] at k;simp at k
  ·rw [oC,nV (by simpa using p)] at k
   cases k
 have:=ZG0 (P:=P) (Q:=Q) (md:=.any) (l1:=d :: r.take m) (l2:=r.drop m) (a:=a.put d.dst g) (C:=C) (PP:=PP) (own:=NV) (λ_ _ _ _ b n=>by cases n) (λ_=>rfl) V (by rw [l];exact W) (by simp) X L (by rw [l];exact λf w h k i o p E=>by have:=(H f w h k).at i o p E;rw [D f h];rwa [FM] at this)
  (by rw[l];exact λf w h k p E=>by rw[D f h];exact I f w h k (Jc.of λj s=>by rw[FM];exact p j (by rw[<- h];exact s))) r.length ((Array.replicate (r.length+1) false).setIfInBounds 0 true) (g :: f)
  { w with drawn:=w.drawn+1 } (by rw[Dt];simp) (by rw[<- A8,l];simp) (by
    rw[YO,Array.toList_replicate,List.replicate_succ,EF,RF];simp) (by simp[x]) Y (λj s A=>by
    cases j with
    | zero=>exact M _
    | succ j =>
      have R:j+1<r.length+1:=by simp at s;omega
      rw[Dt,AO (by omega),getD_lt (by simpa using R)]at A
      simp at A) (λj S s=>by
    have h:j<r.length+1:=by rw[<- A8,l]at s;simpa using s
    have k:j≠0:=by intro e;subst e;simp at S
    rw[Dt,AO (by omega),getD_lt (by simpa using h)]
    simp) (λq o t B=>by
    have h:q<r.length+1:=by rw[l]at t;simpa using(C9.1 t).1
    cases q with
    | zero =>
      have:o=d:=by rw[l]at t;simpa using t.symm
      subst this;exact λe y n=>(J e y n).elim
    | succ q =>
      rw[Dt,AO (by omega),getD_lt (by simpa using h)]at B
      simp at B) (λ_ _ _ _ _ _ _ _ n=>by cases n)
 rw[N,l]at this;exact this
end
end Go.Proofs.YtjihboddejaelaaGreat
