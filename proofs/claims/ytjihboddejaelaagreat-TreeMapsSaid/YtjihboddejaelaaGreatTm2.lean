/-
  The methods of disk.Disk (3): Sync.
-/
import Derived.Test.YtjihboddejaelaaGreatTm1
set_option linter.unusedVariables false
set_option linter.unusedSimpArgs false
set_option linter.defProp false
set_option maxRecDepth 100000
set_option maxHeartbeats 100000000
namespace Go.Proofs.YtjihboddejaelaaGreat
open Go.RowKit Go.BigFrame
def CS(w:World)(A:Option Addr)(n:Nat)(ws:List Ch):Prop :=
 ws.length=n/\(0<n->∃ b off,A=some ⟨b,off,none⟩/\b<w.heap.size/\∀ i c,ws[i]? = some c ->
  w.cell? ⟨b,off+i*4,none⟩=some (.int .i64 c.file)/\w.cell? ⟨b,off+i*4+1,none⟩=some (.int .i64 c.at_)/\w.cell? ⟨b,off+i*4+2,none⟩=some (.string c.text)/\w.cell? ⟨b,off+i*4+3,none⟩=some (.bool c.cut))
def Yt:∀ ws:List Ch,(Hr ws).length=ws.length*4
 | []=>rfl
 | c :: ws=>by
   have:=Yt ws;simp only[Hr,IK,A8,DF]at this ⊢;rw[this];simp only[Ch.cells,DF,cZ];omega
def FZ0:∀ (ws:List Ch) (j:Nat),(Hr ws)[j]? = ws[j / 4]?.bind λv=>v.cells[j % 4]?
 | [],j=>by simp[Hr]
 | v :: ws,j=>by
   have a:Hr (v :: ws)=v.cells++Hr ws:=by simp[Hr]
   rw[a];by_cases h:j<4
   ·rw [G9 (by simpa [Ch.cells] using h),Nat.div_eq_of_lt h,XX h];simp
   ·rw [GU (by simp [Ch.cells];omega),show v.cells.length=4 from rfl,FZ0 ws (j-4)]
    have b:j / 4=(j-4) / 4+1:=by omega
    have c:j % 4=(j-4) % 4:=by omega
    rw[b,c];simp
def CS.Ed{w:World}{b:Nat}{e:TypeId}{v:Value}{n:Nat}{ws:List Ch}(h:w.ownsRow b e 4 v n (Hr ws)):∃ A c,v = .slice A n c/\n<=c/\CS w A n ws:=by
 have d:ws.length=n:=by have:=h.1;rw[Yt]at this;omega
 rcases h.2 with⟨rfl,f⟩ |⟨g,cap,o,rfl,p,j,k,_⟩
 ·subst f;exact⟨none,0,rfl,AY _,d,λh=>absurd h (by omega)⟩
 ·refine ⟨_,_,rfl,k,d,λ_=>⟨g,0,rfl,(LK.1 j).1,λi c l=>?_⟩⟩
  have a:∀ r u,r<4->c.cells[r]? = some u->w.cell? ⟨g,0+(i*4+r),none⟩=some u:=λr u q m=>by
   have:=h.cells (g:=g) rfl (i*4+r) u (by rw[FZ0,show(i*4+r) / 4=i by omega,show(i*4+r) % 4=r by omega,l];exact m);rw[addr_add]at this;exact this
  refine⟨a 0 _ (by omega) rfl, ?_, ?_, ?_⟩
  ·have:=a 1 _ (by omega) rfl;simpa[TA]using this
  ·have:=a 2 _ (by omega) rfl;simpa[TA]using this
  ·have:=a 3 _ (by omega) rfl;simpa[TA]using this
def wF{A:Option Addr}{n c g c' m:Nat}(f:Value.ownBlock (.slice A n c)=Value.ownBlock (.slice none 0 0)\/Value.ownBlock (.slice A n c)=some m):∀ k,Value.ownBlock (.slice A g c')=some k->m<=k:=λk b=>by
 cases A with
 | none=>cases b
 | some a =>
   rcases f with e | e
   ·cases e
   ·have h:some a.block=some k:=b
    have d:some a.block=some m:=e;rw[h]at d;cases d;exact AY _
def Wn(w:World)(o a:Obj):((w.alloc o).alloc a).heap[w.heap.size+1]? = some a:=by
 have:=I8 (w.alloc o) a
 rwa [ED]at this
def Uw(ws:List Ch)(f:Nat):List Ch:=ws.filter (λc=>decide (c.file≠f))
def vY{ws:List Ch}{i f:Nat}(a:i<ws.length)(h:ws[i].file≠f):Uw (ws.take (i+1)) f=Uw (ws.take i) f++[ws[i]]:=by
 unfold Uw;rw[JS a,OT,Aa9 (by simpa using h)];rfl
def qA{ws:List Ch}{i f:Nat}(a:i<ws.length)(h:ws[i].file=f):Uw (ws.take (i+1)) f=Uw (ws.take i) f:=by
 unfold Uw;rw[JS a,OT,Ab0 (by simpa using h)];simp
def wU(ws:List Ch)(f:Nat):(Uw ws f).length<=ws.length:=dB _ _
def Wi (g:Nat) (D:Dk) (b:List (Option Nat)) (f:Int) (w:World) (h:DP w b g D) (aa:D.ok) (au:D.count<=4000000000000000000) (bk:D.waits.length<=1000000000) :
 Calls Tryz.prog 119 #[.pointer (some ⟨g,0,none⟩),.int .i64 f] w (Tu w b g (D.sync f) (.int .i64 (D.Pq f))):=by
 obtain⟨i0,hi,bd,be,bf⟩:=IP infoByte;have R:=Ac (λw1=>Ub f 0 0 w1);have HH:=Ac h;have T:=Ac (λw1 (h1:DP w1 b g D)=>wS g D b w1 h1 aa au);have OK:=Ac aa;by_cases H:0<=f/\f<2
 ·rw [Un ⟨H.1,H.2,by omega,by omega,by omega,by omega⟩] at R
  obtain⟨F,rfl⟩:∃ F:Nat,f=F:=⟨f.toNat,by omega⟩
  obtain⟨an,ao⟩:=H;by_cases p:D.stops
  ·have E:=Ac (show D.Dw=2/\D.sync F=D.turn/\D.Pq F=2 from ⟨AC p,by unfold Dk.sync;rw [AC ⟨an,ao⟩,AC p],by unfold Dk.Pq;rw [AC ⟨an,ao⟩];exact AC p⟩);rw[E.2.1,E.2.2];rw[E.1]at T;clear p h aa au;go_enter Tryz.func119,mP
   go_wp2_with (first |(go_at_call 169;(with_reducible refine(R.out _).mono ?_);rintro e w1 ⟨rfl,rfl⟩) |(go_at_call 189;(with_reducible refine(T.out _ HH.out).mono ?_);rintro e w2 ⟨rfl,hp⟩))
   go_ret;exact⟨rfl,hp⟩
  ·have E:=Ac (show D.Dw=0/\D.Pq F=0 from ⟨AO p,by unfold Dk.Pq;rw [AC ⟨an,ao⟩];exact AO p⟩);have ES:=Ac (show D.sync F=D.Tc F by unfold Dk.sync;rw[AC ⟨an,ao⟩,AO p];rfl);have ET:=Ac (show D.turn={ D with fails:=if 0<D.fails then D.fails-1 else D.fails,count:=D.count+1 }from AO p);have EV:=Ac (λk=>Dk.yG D F k (by omega));have LS:=Ac (aa.seen);rw[E.2,ES.out];rw[E.1]at T;clear p h aa au
   rcases(show F=0\/F=1 by omega)with rfl | rfl
   ·rw [show ((0:Nat):Int)=0 from rfl] at R ⊢;go_enter Tryz.func119,mP
    go_upto_region 6 with(first |(go_at_call 169;(with_reducible refine(R.out _).mono ?_);rintro e w1 ⟨rfl,rfl⟩) |(go_at_call 189;(with_reducible refine(T.out _ HH.out).mono ?_);rintro e w1 ⟨rfl,b1,ab,ac⟩))
    have ad:=Ac (show SK w1 b1 g D.l0 (D.seen 0) D.l1 (D.seen 1) D.waits D.turn.fails D.turn.down D.turn.count by
     have t:=ab;rw[ET.out]at t ⊢
     exact t)
    have ae:=Ac ac;clear ab ac
    go_cut [2] (λs2 wx=>∃ I,SK wx I g (D.seen 0) (D.seen 0) D.l1 (D.seen 1) D.waits D.turn.fails D.turn.down D.turn.count/\Turn b I w wx)
    case first =>
     obtain⟨v0,X,v2,v3,v4,rfl,a⟩:=ad.out;have u:=Ac a;obtain⟨c0,A,J,B,K,L,M,N⟩:=a.has.Ov;have O:=a.has.frozen;have P:=a.has.lt;obtain⟨As,cs,af,_,ag⟩:=BS.Ed (l:=D.seen 0) (a.own 1 rfl);rw[show X = .slice As (D.seen 0).length cs from af]at A;have av:=Ac ag;clear a af ag;have Q:=Ac (show 0+(D.seen 0).length<=maxLen by have:=LS 0;unfold maxLen;omega);have S:=Ac (show(0+(D.seen 0).length)*1<=140737488355328 by have:=LS 0;omega)
     go_region_law
      (refine Qq (by rfl) _ _ _ _ (by rfl) 0 5 i0 _ 1 1 IV hi bd be bf bD (by omega) (.slice none 0 0) 0 [] (by rfl) (JJ _ _ _ _) _ (D.seen 0).length (CG (D.seen 0)) (by rfl) ((av.keep (AU _ _).drew).src IV) Q S (BR _) ?_;intro A5 k5 w5 ap aq aw;have n:=Ac ((u.below (AU _ _).drew).row 0 (r:=rowB v0 D.l0) (r':=rowB (.slice A5 (D.seen 0).length k5) (D.seen 0)) rfl (EB0 aq) (by have h9:=ap;rw[FM]at h9;exact h9) (.inr (wF aw)));have bg:=n.1.has.frozen;have ax:=n.1.has.Ov;obtain⟨g0,g1,g2,g3,g4,g5,g6,g7⟩:=ax;have bh:=n.1.has.lt)
     all_goals
      go_wp2_with fail
      go_meet;exact⟨_,⟨_,_,_,_,_,rfl,n.1.set 0 _⟩,ae.trans ((Turn.below _ (AU _ _).drew).trans (n.2.trans (Turn.set _ _ 0 _ _)))⟩
    case rest =>
     clear ad ae;obtain⟨I,ay,ah⟩:=hcut;obtain⟨v0,X,v2,v3,v4,rfl,a⟩:=ay;have u:=Ac a;have ai:=Ac ah;obtain⟨A4,k4,rfl,bi,aj⟩:=CS.Ed (show wc.ownsRow 0 156 4 v4 D.waits.length (Hr D.waits)from a.own 4 rfl);have az:=Ac aj;obtain⟨c0,A,J,B,K,L,M,N⟩:=a.has.Ov;have O:=a.has.frozen;have P:=a.has.lt;clear a ah aj;obtain⟨i1,a4,a5,a6,a7⟩:=IP lJ
     go_wp2_with fail
     go_loopw [6,36] (λv6 C wr=>∃ i:Nat,i<=D.waits.length/\C = .int .i64 i/\wr.ownsRow wc.heap.size 156 4 v6 (Uw (D.waits.take i) 0).length (Hr (Uw (D.waits.take i) 0))/\Below wc.heap.size wc wr) (λ_ C _=>D.waits.length-(intOf C).toNat)
     case atStart=>exact⟨0,BR _,rfl,JJ _ _ _ _,AU _ _⟩
     case round =>
      obtain⟨i,bj,rfl,ho,hb⟩:=hrel;have d:=Ac ho;have c:=Ac hb;clear ho hb;by_cases G:i<D.waits.length
      ·obtain ⟨o,v,rfl,q,ak⟩:=az.2 (by omega);obtain⟨a0,a1,a2,a3⟩:=ak i D.waits[i] (by simp[G]);obtain⟨m,a8⟩:=Yj c;have d0:=(m o (v+i*4) q).trans a0;have d1:=(m o (v+i*4+1) q).trans a1;have d2:=(m o (v+i*4+2) q).trans a2;have d3:=(m o (v+i*4+3) q).trans a3
       have zz:o<wr.heap.size:=by have:=c.size;omega
       have y:=Ac (vY (ws:=D.waits) (f:=0) G);have z:=Ac (qA (ws:=D.waits) (f:=0) G);have RL:=Ac (wU (D.waits.take i) 0);obtain⟨x,U⟩:∃ x,D.waits[i]=x:=⟨_,rfl⟩;rw[U]at d0 d1 d2 d3;simp only[U]at y z;clear ak a0 a1 a2 a3 m a8 U
       have tl:(D.waits.take i).length<=1000000000:=by rw[CU];omega
       by_cases al:x.file=0
       ·have a9:=Ac (z al)
        have xe:((x.file:Int) != 0)=false:=by rw[QS];omega
        clear y z
        go_wp2_with fail
        go_roundw
        case rel=>exact⟨i+1,by omega,by simp,by rw[a9.out];exact d.alloc _,c.alloc c.size _⟩
        case measure=>simp[intOf];omega
       ·have ba:=Ac (y al)
        have xe:((x.file:Int) != 0)=true:=by rw[OE];omega
        have Q:=Ac (show(Uw (D.waits.take i) 0).length+1<=maxLen by have:=RL.out;unfold maxLen;omega);have S:=Ac (show((Uw (D.waits.take i) 0).length+1)*40<=140737488355328 by have:=RL.out;omega);clear y z
        go_wp2_with (at_builtin;(refine Aq _ rfl (.tmp 44) (.tmp 46) 94 94 rfl wc.heap.size 156 i1 _ 4 40 XM a4 a5 a6 a7 Ze (by decide) _ (Uw (D.waits.take i) 0).length _ rfl ((d.alloc _).alloc _) (.slice (some ⟨_,0,none⟩) 1 1) 1 x.cells rfl (IW _ XM ⟨_,0,none⟩ 1 1 x.cells rfl (JQ (Wn _ _ _)) (Zc x)) Q S (BN c.size (by simp;omega)) ?_);intro X w6 Y am _ ar;have bb:=Ac Y;have bc:=Ac ((((c.alloc c.size _).alloc (BN c.size (by simp)) _).grown am (BN c.size (by simp;omega)) (λk j=>(d.lt k j).1)));clear Y am ar)
        go_roundw
        case rel=>exact⟨i+1,by omega,by simp,by rw[ba.out,Wu,A8];exact bb,bc⟩
        case measure=>simp[intOf];omega
      ·obtain rfl:i=D.waits.length:=by omega
       have s:=Ac (u.below c);clear c0 A J B K L M N O P;obtain⟨c0,A,J,B,K,L,M,N⟩:=s.has.Ov;have O:=s.has.frozen;have P:=s.has.lt;obtain⟨V,W,rfl,_⟩:=Bg d;have ER:=Ac (show Uw (D.waits.take D.waits.length) 0=(D.Tc 0).waits by rw[QU];rfl);rw[ER.out]at d ⊢
       go_wp2_with fail
       go_ret;have Z:∀ k,Value.ownBlock (.slice V (D.Tc 0).waits.length W)=some k->wc.heap.size<=k:=λk j=>(d.lt k j).1;refine⟨rfl,_, ?_,((ai.trans (Turn.below _ c)).swap 4 (r':=PH (.slice V (D.Tc 0).waits.length W) (D.Tc 0).waits) (λk j=>BN ai.size (Z k j))).trans (Turn.set _ _ 4 _ _)⟩;unfold DP;rw[EV.out 0 (by omega),EV.out 1 (by omega)];exact⟨_,_,_,_,_,rfl,((s.swap 4 (r':=PH (.slice V (D.Tc 0).waits.length W) (D.Tc 0).waits) rfl (vO d) (λk j t=>by have h3:=Z k j;have h4:=u.lt t;omega)).set 4 _)⟩
   ·rw [show ((1:Nat):Int)=1 from rfl] at R ⊢;go_enter Tryz.func119,mP
    go_upto_region 6 with(first |(go_at_call 169;(with_reducible refine(R.out _).mono ?_);rintro e w1 ⟨rfl,rfl⟩) |(go_at_call 189;(with_reducible refine(T.out _ HH.out).mono ?_);rintro e w1 ⟨rfl,b1,ab,ac⟩))
    have ad:=Ac (show SK w1 b1 g D.l0 (D.seen 0) D.l1 (D.seen 1) D.waits D.turn.fails D.turn.down D.turn.count by
     have t:=ab;rw[ET.out]at t ⊢
     exact t)
    have ae:=Ac ac;clear ab ac
    go_cut [2] (λs2 wx=>∃ I,SK wx I g D.l0 (D.seen 0) (D.seen 1) (D.seen 1) D.waits D.turn.fails D.turn.down D.turn.count/\Turn b I w wx)
    case first =>
     obtain⟨v0,X,v2,v3,v4,rfl,a⟩:=ad.out;have u:=Ac a;obtain⟨c0,A,J,B,K,L,M,N⟩:=a.has.Ov;have O:=a.has.frozen;have P:=a.has.lt;obtain⟨As,cs,af,_,ag⟩:=BS.Ed (l:=D.seen 1) (a.own 3 rfl);rw[show v3 = .slice As (D.seen 1).length cs from af]at B;have av:=Ac ag;clear a af ag;have Q:=Ac (show 0+(D.seen 1).length<=maxLen by have:=LS 1;unfold maxLen;omega);have S:=Ac (show(0+(D.seen 1).length)*1<=140737488355328 by have:=LS 1;omega)
     go_region_law
      (refine Qq (by rfl) _ _ _ _ (by rfl) 0 5 i0 _ 1 1 IV hi bd be bf bD (by omega) (.slice none 0 0) 0 [] (by rfl) (JJ _ _ _ _) _ (D.seen 1).length (CG (D.seen 1)) (by rfl) ((av.keep (AU _ _).drew).src IV) Q S (BR _) ?_;intro A5 k5 w5 ap aq aw;have n:=Ac ((u.below (AU _ _).drew).row 2 (r:=rowB v2 D.l1) (r':=rowB (.slice A5 (D.seen 1).length k5) (D.seen 1)) rfl (EB0 aq) (by have h9:=ap;rw[FM]at h9;exact h9) (.inr (wF aw)));have bg:=n.1.has.frozen;have ax:=n.1.has.Ov;obtain⟨g0,g1,g2,g3,g4,g5,g6,g7⟩:=ax;have bh:=n.1.has.lt)
     all_goals
      go_wp2_with fail
      go_meet;exact⟨_,⟨_,_,_,_,_,rfl,n.1.set 2 _⟩,ae.trans ((Turn.below _ (AU _ _).drew).trans (n.2.trans (Turn.set _ _ 2 _ _)))⟩
    case rest =>
     clear ad ae;obtain⟨I,ay,ah⟩:=hcut;obtain⟨v0,X,v2,v3,v4,rfl,a⟩:=ay;have u:=Ac a;have ai:=Ac ah;obtain⟨A4,k4,rfl,bi,aj⟩:=CS.Ed (show wc.ownsRow 0 156 4 v4 D.waits.length (Hr D.waits)from a.own 4 rfl);have az:=Ac aj;obtain⟨c0,A,J,B,K,L,M,N⟩:=a.has.Ov;have O:=a.has.frozen;have P:=a.has.lt;clear a ah aj;obtain⟨i1,a4,a5,a6,a7⟩:=IP lJ
     go_wp2_with fail
     go_loopw [6,36] (λv6 C wr=>∃ i:Nat,i<=D.waits.length/\C = .int .i64 i/\wr.ownsRow wc.heap.size 156 4 v6 (Uw (D.waits.take i) 1).length (Hr (Uw (D.waits.take i) 1))/\Below wc.heap.size wc wr) (λ_ C _=>D.waits.length-(intOf C).toNat)
     case atStart=>exact⟨0,BR _,rfl,JJ _ _ _ _,AU _ _⟩
     case round =>
      obtain⟨i,bj,rfl,ho,hb⟩:=hrel;have d:=Ac ho;have c:=Ac hb;clear ho hb;by_cases G:i<D.waits.length
      ·obtain ⟨o,v,rfl,q,ak⟩:=az.2 (by omega);obtain⟨a0,a1,a2,a3⟩:=ak i D.waits[i] (by simp[G]);obtain⟨m,a8⟩:=Yj c;have d0:=(m o (v+i*4) q).trans a0;have d1:=(m o (v+i*4+1) q).trans a1;have d2:=(m o (v+i*4+2) q).trans a2;have d3:=(m o (v+i*4+3) q).trans a3
       have zz:o<wr.heap.size:=by have:=c.size;omega
       have y:=Ac (vY (ws:=D.waits) (f:=1) G);have z:=Ac (qA (ws:=D.waits) (f:=1) G);have RL:=Ac (wU (D.waits.take i) 1);obtain⟨x,U⟩:∃ x,D.waits[i]=x:=⟨_,rfl⟩;rw[U]at d0 d1 d2 d3;simp only[U]at y z;clear ak a0 a1 a2 a3 m a8 U
       have tl:(D.waits.take i).length<=1000000000:=by rw[CU];omega
       by_cases al:x.file=1
       ·have a9:=Ac (z al)
        have xe:((x.file:Int) != 1)=false:=by rw[QS];omega
        clear y z
        go_wp2_with fail
        go_roundw
        case rel=>exact⟨i+1,by omega,by simp,by rw[a9.out];exact d.alloc _,c.alloc c.size _⟩
        case measure=>simp[intOf];omega
       ·have ba:=Ac (y al)
        have xe:((x.file:Int) != 1)=true:=by rw[OE];omega
        have Q:=Ac (show(Uw (D.waits.take i) 1).length+1<=maxLen by have:=RL.out;unfold maxLen;omega);have S:=Ac (show((Uw (D.waits.take i) 1).length+1)*40<=140737488355328 by have:=RL.out;omega);clear y z
        go_wp2_with (at_builtin;(refine Aq _ rfl (.tmp 44) (.tmp 46) 94 94 rfl wc.heap.size 156 i1 _ 4 40 XM a4 a5 a6 a7 Ze (by decide) _ (Uw (D.waits.take i) 1).length _ rfl ((d.alloc _).alloc _) (.slice (some ⟨_,0,none⟩) 1 1) 1 x.cells rfl (IW _ XM ⟨_,0,none⟩ 1 1 x.cells rfl (JQ (Wn _ _ _)) (Zc x)) Q S (BN c.size (by simp;omega)) ?_);intro X w6 Y am _ ar;have bb:=Ac Y;have bc:=Ac ((((c.alloc c.size _).alloc (BN c.size (by simp)) _).grown am (BN c.size (by simp;omega)) (λk j=>(d.lt k j).1)));clear Y am ar)
        go_roundw
        case rel=>exact⟨i+1,by omega,by simp,by rw[ba.out,Wu,A8];exact bb,bc⟩
        case measure=>simp[intOf];omega
      ·obtain rfl:i=D.waits.length:=by omega
       have s:=Ac (u.below c);clear c0 A J B K L M N O P;obtain⟨c0,A,J,B,K,L,M,N⟩:=s.has.Ov;have O:=s.has.frozen;have P:=s.has.lt;obtain⟨V,W,rfl,_⟩:=Bg d;have ER:=Ac (show Uw (D.waits.take D.waits.length) 1=(D.Tc 1).waits by rw[QU];rfl);rw[ER.out]at d ⊢
       go_wp2_with fail
       go_ret;have Z:∀ k,Value.ownBlock (.slice V (D.Tc 1).waits.length W)=some k->wc.heap.size<=k:=λk j=>(d.lt k j).1;refine⟨rfl,_, ?_,((ai.trans (Turn.below _ c)).swap 4 (r':=PH (.slice V (D.Tc 1).waits.length W) (D.Tc 1).waits) (λk j=>BN ai.size (Z k j))).trans (Turn.set _ _ 4 _ _)⟩;unfold DP;rw[EV.out 0 (by omega),EV.out 1 (by omega)];exact⟨_,_,_,_,_,rfl,((s.swap 4 (r':=PH (.slice V (D.Tc 1).waits.length W) (D.Tc 1).waits) rfl (vO d) (λk j t=>by have h3:=Z k j;have h4:=u.lt t;omega)).set 4 _)⟩
 ·rw [Ll (λh=>H ⟨h.1,h.2.1⟩)] at R;have E:=Ac (show D.sync f=D/\D.Pq f=1 from⟨AO H,AO H⟩);rw[E.1,E.2];clear H h;go_enter Tryz.func119,mP
  go_wp2_with (go_at_call 169;(with_reducible refine(R.out _).mono ?_);rintro e w1 ⟨rfl,rfl⟩)
  go_ret;exact Tu.refl HH
def IS(w:World)(A:Option Addr)(n:Nat)(a:List Int):Prop :=
 a.length=n/\(0<n->∃ b off,A=some ⟨b,off,none⟩/\b<w.heap.size/\∀ i k,a[i]? = some k->w.cell? ⟨b,off+i,none⟩=some (.int .i64 k))
def iK(A:Option Addr):Option Nat:=A.map (·.block)
section
variable {w w':World} {b:List (Option Nat)} {r:Nat} {D:Dk} {t:TypeId} {a0 a1 a2 a3 a4 a5:Value}
end

end Go.Proofs.YtjihboddejaelaaGreat
