/-
  page.Used, page.Seal.
-/
import Derived.Test.YtjihboddejaelaaGreatTm1
import Derived.Test.YtjihboddejaelaaGreatTm6
import Derived.Lib.BufferWrite
import Derived.Lib.SlBuf
import Derived.IntWalk
import Derived.Laws.MakeOwn
import Derived.Lib.Strings
import Derived.Test.YtjihboddejaelaaGreatTm5
import Derived.Test.YtjihboddejaelaaGreatTm4
import Derived.Maps.StringElems
import Derived.RegionTactic
import Derived.BigRegion
import Derived.ChangeAlike
import Derived.Outline
set_option linter.unusedVariables false
set_option linter.unusedSimpArgs false
set_option linter.defProp false
set_option maxRecDepth 100000
set_option maxHeartbeats 100000000
namespace Go.Proofs.YtjihboddejaelaaGreat
open Go.RowKit Go.BigFrame
attribute [local go_sem] Ea Bz Bq Act.put
def SS(w:World)(A:Option Addr)(n:Nat)(l:List ByteArray):Prop :=
 l.length=n/\(0<n->∃ b off,A=some ⟨b,off,none⟩/\b<w.heap.size/\∀ i v,l[i]? = some v->w.cell? ⟨b,off+i,none⟩=some (.string v))
def SS.keep{w w':World}{A:Option Addr}{n:Nat}{l:List ByteArray}(h:SS w A n l)(a:Below w.heap.size w w'):SS w' A n l :=
 ⟨h.1,λd=>by
   obtain⟨b,off,e,c,f⟩:=h.2 d
   exact⟨b,off,e,DD c a.size,λi v g=>(a.cell (p:=⟨b,off+i,none⟩) c).trans (f i v g)⟩⟩
def Jm (A:Option Addr) (n c:Nat) (cs:List ByteArray) (w:World) (h:SS w A n cs) (o:n<=4194304) (p:Ce cs<=8388608) :
 Calls Tryz.prog 141 #[.slice A n c] w λe w'=>e = .returned (.int .i64 (Ce cs:Nat))/\w=w':=by
 go_enter Tryz.func141,Tryz.ntmps141
 go_wp2_with fail
 go_loop [3,8] (λk d=>∃ i:Nat,i<=n/\d = .int .i64 i/\k = .int .i64 (Ce (cs.take i):Nat)) (λ_ d=>n-(intOf d).toNat)
 case atStart=>exact⟨0,BR _,rfl,rfl⟩
 case round =>
  obtain⟨i,q,rfl,rfl⟩:=hrel;by_cases l:i<n
  ·obtain ⟨b,off,rfl,r,f⟩:=h.2 (by omega)
   have g:i<cs.length:=by rw[h.1];exact l
   have c0:=f i cs[i] (by simp[g]);have E:=Ac (YL0 cs g);have j:=BP0 cs (i+1);rw[E.out]at j;obtain⟨x,a⟩:∃ x,Ce (cs.take i)=x:=⟨_,rfl⟩;rw[a]at j;have m:=Ac a;rw[a];clear a f
   have s:x<=8388608:=by omega
   have t:cs[i].size<=8388608:=by omega
   go_wp2_with fail
   go_round
   case rel=>exact⟨i+1,by omega,by simp,by rw[E.out,m.out];simp⟩
   case measure=>simp[intOf];omega
  ·obtain rfl:i=n:=by omega
   have E:=Ac (show((Ce (cs.take i):Nat):Int)=(Ce cs:Nat)by rw[<- h.1,QU])
   go_wp2_with fail
   go_ret;exact⟨UN E,rfl⟩
def yC(L:List UInt8)(o:Nat)(x:List UInt8):splice (CG L) o (CG x)=CG (splice L o x):=by
 simp[splice,CG,QX,MW]
def Jj {P:Program} {w:World} {ops:Array Oper} {rest:List Oper} {o:Oper} {a:Act} {Q:Exit->Act->World->Prop} (D:o.guard=none) (d s:Operand) (n y:TypeId)
 (H:o.op = .call { callee:=.builtin .copy,args:=#[d,s],argTypes:=#[n,y] }) (i:TypeId) (I:P.underlying n=some (.slice i)) (E:(P.info? i).map (·.size)=some 1)
 (p:Option Addr) (k r:Nat) (A:Option Addr) (m c:Nat) (J:a.eval d = .slice p k r) (K:a.eval s = .slice A m c) (l:List UInt8) (z:BS w A m l)
 (g off:Nat) (f:List UInt8) (t:TypeId) (L:Has w g t (CG f).toArray) (F:0<m->p=some ⟨g,off,none⟩) (G:m<=k) (C:off+m<=f.length)
 (h:∀ w',Has w' g t (CG (splice f off l)).toArray->Below g w w'->wpList P ops Q rest (a.put o.dst (goInt m)) w'):wpList P ops Q (o :: rest) a w:=by
 have e:(CG l).length=m:=by rw[Oc,z.1]
 refine wpList_copy_splice D d s n y H i I E p A k r m c J K g off (CG f) t L (CG l) (by rw[e];exact(MC G).symm) (λq=>?_) (by rw[e,Oc];exact C) GQ1 g w (AU _ _) (AY _) (λw' M N=>?_)
 ·rw [e] at q;obtain⟨b,of,O,T,R⟩:=z.2 q;refine⟨F q,⟨b,of,none⟩,O,λj v B=>?_⟩;rw[addr_add];rw[WQ]at B;obtain⟨x,S,rfl⟩:=Aa1.1 B;exact R j x S
 ·have u:=M.out;rw[yC]at u;rw[e];exact h w' u N
def QW0 {P:Program} {w:World} (e h i:TypeId) (c:TypeId) (o:P.underlying e=some (.slice c)) (m:(P.info? c).map (·.size)=some 1)
 (j:Option Addr) (d f:Nat) (x:ByteArray) (g off:Nat) (a:List UInt8) (t:TypeId) (k:Has w g t (CG a).toArray) (q:0<x.size->j=some ⟨g,off,none⟩) (r:x.size<=d) (p:off+x.size<=a.length) :
 ∃ w',(Builtin.copy_ #[e,h] i #[.slice j d f,.string x]).run P w = .ok (goInt x.size) w'/\Has w' g t (CG (splice a off x.data.toList)).toArray/\Below g w w':=by
 have n:x.data.toList.length=x.size:=by simp
 rcases S9 x.size with b | b
 ·have l:=Lib.run_copy_empty_string (P:=P) w e h i c j d f x o (by rw [m];rfl) b;have s:x.data.toList=[]:=MI (by rw[n];exact b);exact⟨w,by rw[b];exact l,by rw[s,TZ0];exact k,AU _ _⟩
 ·obtain rfl:=q b;have l:=Lib.run_copy_row_string (P:=P) w e h i c g off d f x _ t o m k r (by simpa[Oc]using p);refine⟨_,l, ?_,below_setRow (AU g w) (AY _) _⟩
  have u:((CG a).toArray.toList.take off++Lib.byteCells x.data.toList++(CG a).toArray.toList.drop (off+x.size))=CG (splice a off x.data.toList):=by
   rw[<- yC,splice,show(Lib.byteCells x.data.toList)=CG x.data.toList from rfl,Oc,n];simp
  rw[u];exact setRow_heap w g _ _ t (0,0) k
def fO(g o:Nat)(h:o<1024)(w:World):(Instr.sliceAt 228 (.pointer (some ⟨g,0,none⟩)) (some (.int .i64 o)) none none).run Tryz.prog w = .ok (.slice (some ⟨g,o,none⟩) (1024-o) (1024-o)) w:=by
 have a:(0:Int)<=(o:Int):=by omega
 have b:(o:Int)<=1024:=by omega
 have c:¬ 1024=o:=by omega
 go_simp
def SW0(g:Nat)(w:World):(Instr.sliceAt 228 (.pointer (some ⟨g,0,none⟩)) (some (.int .i64 1024)) none none).run Tryz.prog w = .ok (.slice (some ⟨g,0,none⟩) 0 0) w:=by
 go_simp
def UR0(g o m:Nat)(h:o+m<=1024):∃ a k,(∀ w,(Instr.sliceAt 228 (.pointer (some ⟨g,0,none⟩)) (some (.int .i64 o)) none none).run Tryz.prog w = .ok (.slice a k k) w)/\(0<m->a=some ⟨g,o,none⟩)/\m<=k:=by
 by_cases b:o<1024
 ·exact⟨_,_,fO g o b,λ_=>rfl,by omega⟩
 ·obtain rfl:o=1024:=by omega
  exact⟨_,_,SW0 g,λh=>by omega,by omega⟩
def BS.CO1{w:World}{g:Nat}{t:TypeId}{L m:List UInt8}{n:Nat}(h:Has w g t (CG L).toArray)(o:Nat)(c:L.length=o+n)(b:L.drop o=m):BS w (some ⟨g,o,none⟩) n m:=by
 subst b;refine⟨by rw[DJ];omega,λ_=>⟨g,o,rfl,h.lt,λi v a=>?_⟩⟩;rw[h.cell];rw[IX]at a;simp[WQ,a]
def QG:List Value->(Value->World->Prop)->Nat->Value->World->Prop
 | [],R,0,u,w=>R u w
 | [],_,_+1,_,_=>True
 | v :: _,_,0,u,_=>u=v
 | _ :: vs,R,j+1,u,w=>QG vs R j u w
def Qh {R:Value->World->Prop} (b:∀ u (w w':World),Below w.heap.size w w'->R u w->R u w'):∀ (a:List Value) j u (w w':World),Below w.heap.size w w'->QG a R j u w->QG a R j u w'
 | [],0,u,w,w',hb,h=>b u w w' hb h
 | [],_+1,_,_,_,_,h=>h
 | _ :: _,0,_,_,_,_,h=>h
 | _ :: a,j+1,u,w,w',hb,h=>Qh b a j u w w' hb h
def BV(m:Nat)(l:List UInt8)(u:Value)(w:World):Prop:=∃ A c,u = .slice A m c/\BS w A m l
def Xa(m:Nat)(l:List UInt8):∀ u (w w':World),Below w.heap.size w w'->BV m l u w->BV m l u w':=λ_ _ _ a ⟨A,c,e,h⟩=>⟨A,c,e,h.keep a⟩
def jO(n:Nat)(a:n<=9223372036854775807)(w:World):Calls Tryz.prog 192 #[.int .i64 n] w λe w'=>∃ u,e = .returned u/\Below w.heap.size w w'/\BV 2 (BJ n 2) u w' :=
 (iP n a w).mono λe w' ⟨g,b,c,d,_⟩=>⟨_,b,d,_,_,rfl,by have:=BS.VS c;rwa [Bj]at this⟩
def yL(n:Nat)(a:n<=4294967295)(w:World):Calls Tryz.prog 193 #[.int .i64 n] w λe w'=>∃ u,e = .returned u/\Below w.heap.size w w'/\BV 4 (BJ n 4) u w' :=
 (GK1 n a w).mono λe w' ⟨A,c,b,d,f⟩=>⟨_,b,f,A,c,by rw[Bj],by rwa [Bj]at d⟩
def sizeByte:(Tryz.prog.info? 5).map (·.size)=some 1:=by kernel_rfl
def ML1(l:List UInt8)(i:Nat)(b:UInt8):(CG l).toArray.setIfInBounds i (LU b)=(CG (l.set i b)).toArray:=by simp[CG,List.map_set]
def KA1(K:Int)(a:0<=K)(b:K<=255):(CG (List.replicate 1024 0)).toArray.setIfInBounds 4 (.int .u8 K)=(CG ((List.replicate 1024 0).set 4 (UInt8.ofNat K.toNat))).toArray:=by
 have e:Value.int .u8 K=LU (UInt8.ofNat K.toNat):=by unfold LU;rw[Iw];congr 1;omega
 rw[e,ML1]
def MM1 : Tryz.zeroCells228 = (CG (List.replicate 1024 0)).toArray:=by kernel_rfl
def Dj(K L:Int)(cs:List ByteArray):ByteArray:=if(K<1\/5<K\/L<0\/2147483647<L)\/1012<Ce cs then⟨#[]⟩else bsOf (Rx K.toNat L.toNat cs)
def Qz(K L:Int)(cs:List ByteArray):Int:=if K<1\/5<K\/L<0\/2147483647<L then 1 else if 1012<Ce cs then 5 else 0
def Uh (K L:Int) (A:Option Addr) (n c:Nat) (cs:List ByteArray) (w:World) (h:SS w A n cs) (hn:n<=4194304) (hu:Ce cs<=8388608) :
 Calls Tryz.prog 122 #[.agg #[.int .i64 K,.int .i64 L,.slice A n c]] w λe w'=>e = .returned (.tuple #[.string (Dj K L cs),.int .i64 (Qz K L cs)])/\Below w.heap.size w w':=by
 have S:=Ac (show Below w.heap.size w (w.alloc (.cells #[.int .i64 K,.int .i64 L,.slice A n c] 114))from(AU _ _).alloc (AY _) _);by_cases hk:K<1\/5<K\/L<0\/2147483647<L
 ·have T:Hid (Ending.returned (.tuple #[.string ⟨#[]⟩,.int .i64 1]) = .returned (.tuple #[.string (Dj K L cs),.int .i64 (Qz K L cs)])):=by
   show _=_;rw[Dj,Qz,AC (.inl hk),AC hk]
  have bf:K<1\/(1<=K/\5<K)\/(1<=K/\K<=5/\L<0)\/(1<=K/\K<=5/\0<=L/\2147483647<L):=by omega
  clear hk h
  rcases bf with k1 |⟨k1,k2⟩ |⟨k1,k2,Y⟩ |⟨k1,k2,Y,k4⟩
  all_goals
   go_enter Tryz.func122,Tryz.ntmps122
   go_wp2_with fail
   go_ret2;exact⟨T,S⟩
 ·have k1:1<=K:=by omega
  have k2:K<=5:=by omega
  have Y:0<=L:=by omega
  have k4:L<=2147483647:=by omega
  have U:=Ac (λw1 (hw:Below w.heap.size w w1)=>Jm A n c cs w1 (h.keep hw) hn hu);have Z:=Ac h;clear h hk;by_cases hr:1012<Ce cs
  ·have T:Hid (Ending.returned (.tuple #[.string ⟨#[]⟩,.int .i64 5]) = .returned (.tuple #[.string (Dj K L cs),.int .i64 (Qz K L cs)])):=by
    have q1:¬(K<1\/5<K\/L<0\/2147483647<L):=by omega
    show _=_;rw[Dj,Qz,AC (.inr hr),AO q1,AC hr]
   go_enter Tryz.func122,Tryz.ntmps122
   go_wp2_with (go_at_call 141;refine(U _ S).mono ?_;rintro e w1 ⟨rfl,rfl⟩)
   go_ret2;exact⟨T,S⟩
  ·go_enter Tryz.func122,Tryz.ntmps122
   go_upto_region 7 with(go_at_call 141;refine(U _ S).mono ?_;rintro e w1 ⟨rfl,rfl⟩)
   have v:=(Has.new w 114 #[.int .i64 K,.int .i64 L,.slice A n c]).alloc (.cells (Tryz.zeroCells228.setIfInBounds 4 (.int .u8 K)) 228);have I:=Has.new (w.alloc (.cells #[.int .i64 K,.int .i64 L,.slice A n c] 114)) 228 (Tryz.zeroCells228.setIfInBounds 4 (.int .u8 K));have N:=S.alloc (by simp) (.cells (Tryz.zeroCells228.setIfInBounds 4 (.int .u8 K)) 228);simp only[ED]at I;generalize ((w.alloc (.cells #[.int .i64 K,.int .i64 L,.slice A n c] 114)).alloc (.cells (Tryz.zeroCells228.setIfInBounds 4 (.int .u8 K)) 228))=W at *;rw[MM1,KA1 K (by omega) (by omega)]at I
   refine Gt 5 (CQ (W)) (QG [.slice (some ⟨w.heap.size+1,6,none⟩) 1018 1018,.pointer (some ⟨w.heap.size,2,none⟩),.slice A n c,.int .i64 n] (BV 2 (BJ n 2))) (by kernel_rfl) (by kernel_rfl) (by kernel_rfl) (λ_ _ a y=>CQ.step a y) ?hst (CQ.start _) ?hops ?hend
   case hst=>exact Qh (Xa _ _) _
   case hops =>
    obtain⟨a0,a1,a2⟩:=v.cells3;have z1:=v.lt;intro f wx d a;obtain⟨z,B,C,D,J,rfl⟩:=YR f d;clear d;simp only[Bq,Act.put,DY,DZ,EP,EF,EH];refine⟨λh=>?_,λh=>?_,λh=>?_,λh=>?_,λh=>?_,trivial⟩
    ·(clear h;refine Ae rfl ?_;go_simp;exact⟨AU _ _,rfl⟩)
    ·(clear h;refine Ae rfl ?_;go_simp;exact⟨AU _ _,rfl⟩)
    ·obtain rfl:=h 1 rfl
     (clear h;refine Ae rfl ?_;obtain⟨hc,hf⟩:=a.facts;go_simp;exact⟨AU _ _,rfl⟩)
    ·obtain rfl:=h 2 rfl
     (clear h;refine Ae rfl ?_;go_simp;exact⟨AU _ _,rfl⟩)
    ·obtain rfl:=h 3 rfl;clear h;refine Ae rfl ?_;go_simp;exact(jO n (by omega) _)
   case hend =>
    intro f wx d a;obtain⟨z,B,C,D,J,rfl⟩:=YR f d;clear d;intro u;obtain⟨F,t,G,H,M,_⟩:=u;obtain rfl:=F;obtain⟨A4,c4,rfl,p⟩:=M;have j:=I.Ai a.bel;have r:=v.Ai a.bel;have o:=Ap N a.bel N.size;clear t G H I v N;simp only[Bq,Act.put,DY,DZ,EP,EF,EH,IC,GV];refine Jj rfl (.tmp 34) (.tmp 38) 39 39 rfl 5 IV sizeByte (some ⟨w.heap.size+1,6,none⟩) 1018 1018 A4 2 c4 rfl rfl _ p (w.heap.size+1) 6 _ _ j (λ_=>rfl) (by omega) (by simp) ?_;intro w7 ay ai;have aa:=r.below ai (by omega);have ac:Below w.heap.size w w7:=o.trans (ai.mono (by omega));clear j r ai o a p
    go_wp2_with fail
    have Ba:=Ac (λw1=>yL L.toNat (by omega) w1)
    have eL:((L.toNat:Nat):Int)=L:=by omega
    rw[eL]at Ba;refine Gt 4 (CQ (w7)) (QG [.slice (some ⟨w.heap.size+1,8,none⟩) 1016 1016,.pointer (some ⟨w.heap.size,1,none⟩),.int .i64 L] (BV 4 (BJ L.toNat 4))) (by kernel_rfl) (by kernel_rfl) (by kernel_rfl) (λ_ _ a y=>CQ.step a y) ?hst (CQ.start _) ?hops ?hend
    case hst=>exact Qh (Xa _ _) _
    case hops =>
     obtain⟨a0,a1,a2⟩:=aa.cells3;have z1:=aa.lt;intro f wx d a;obtain⟨z,B,C,D,rfl⟩:=oI f d;clear d;simp only[Bq,Act.put,DY,DZ,EP,EF,EH];refine⟨λh=>?_,λh=>?_,λh=>?_,λh=>?_,trivial⟩
     ·(clear h;refine Ae rfl ?_;go_simp;exact⟨AU _ _,rfl⟩)
     ·(clear h;refine Ae rfl ?_;go_simp;exact⟨AU _ _,rfl⟩)
     ·obtain rfl:=h 1 rfl
      (clear h;refine Ae rfl ?_;obtain⟨hc,hf⟩:=a.facts;go_simp;exact⟨AU _ _,rfl⟩)
     ·obtain rfl:=h 2 rfl;clear h;refine Ae rfl ?_;go_simp;exact Ba _
    case hend =>
     intro f wx d a;obtain⟨z,B,C,D,rfl⟩:=oI f d;clear d;intro u;obtain⟨F,t,G,H,_⟩:=u;obtain rfl:=F;obtain⟨A5,c5,rfl,p⟩:=H;have j:=ay.Ai a.bel;have r:=aa.Ai a.bel;have o:=Ap ac a.bel ac.size;clear t G ay aa ac Ba eL;simp only[Bq,Act.put,DY,DZ,EP,EF,EH,IC,GV];refine Jj rfl (.tmp 40) (.tmp 43) 39 39 rfl 5 IV sizeByte (some ⟨w.heap.size+1,8,none⟩) 1016 1016 A5 4 c5 rfl rfl _ p (w.heap.size+1) 8 _ _ j (λ_=>rfl) (by omega) (by rw[Tz _ _ _ (by simp[Bj])];simp) ?_;intro w8 aj ak;have ab:=r.below ak (by omega);have am:Below w.heap.size w w8:=o.trans (ak.mono (by omega))
     clear j r ak o a p;rw[<- Z.1,TC0 K.toNat L.toNat cs]at aj;obtain⟨a0,a1,a2⟩:=ab.cells3;have z1:=ab.lt;have az:=Ac aj;have O:=Ac ab;have s:=Ac am;clear aj ab am
     go_wp2_with fail
     clear a0 a1 a2 z1
     have bg:Ce cs<=1012:=by omega
     have q:=Ac bg
     go_loopw [5,48] (λv5 al wr=>∃ i E:Nat,i<=n/\E=1024-Jn (cs.take i)/\al = .int .i64 i/\v5 = .int .i64 E/\Has wr (w.heap.size+1) 228 (CG (KX K.toNat L.toNat cs i)).toArray/\Has wr w.heap.size 114 #[.int .i64 K,.int .i64 L,.slice A n c]/\Below w.heap.size w wr) (λ_ al _=>n-(intOf al).toNat)
     case atStart=>exact⟨0,1024,BR _,rfl,rfl,rfl,az,O,s⟩
     case round =>
      clear az O s;obtain⟨i,E,hi,hE,rfl,rfl,I,v,N⟩:=hrel;have V:=Ac I;have O:=Ac v;have s:=Ac N;clear I v N;by_cases t:i<n
      ·have hl:i<cs.length:=by rw [Z.1];exact t
       obtain⟨b,off,rfl,bh,hc⟩:=Z.2 (by omega);have c0:=hc i cs[i] (by simp[hl]);obtain⟨wc,wf⟩:=Yj s;have c1:wr.cell? ⟨b,off+i,none⟩=some (.string cs[i]):=(wc _ _ bh).trans c0
       have z1:b<wr.heap.size:=by have:=s.size;omega
       have b1:=WU q (i+1) (by omega)
       have b2:=Yd cs hl;obtain⟨E',a3⟩:∃ E':Nat,E'=1024-Jn (cs.take (i+1)):=⟨_,rfl⟩;obtain⟨g,a4⟩:∃ g:Nat,g=12+2*i:=⟨_,rfl⟩
       have e1:(12:Int)+2*(i:Int)=(g:Int):=by omega
       have e2:(E:Int)-(2+(cs[i].size:Int))=(E':Int):=by omega
       have m1:g<=1022:=by omega
       have m2:E'<=1022:=by omega
       have m3:cs[i].size<=1012:=by omega
       have m4:E'+2+cs[i].size<=1024:=by omega
       have m5:E<=1024:=by omega
       have bc:=Ac (AV1 (k:=K.toNat) (l:=L.toNat) q hl);have a5:=Ac a3;have bi:=Ac a4;have w1:IntKind.i64.wrap (2*(i:Int))=2*(i:Int):=JL _ ⟨by omega,by omega⟩;have w2:IntKind.i64.wrap (g:Int)=(g:Int):=JL _ ⟨by omega,by omega⟩
       obtain⟨E2,a6⟩:∃ E2:Nat,E2=E'+2:=⟨_,rfl⟩
       have e3:(E':Int)+2=(E2:Int):=by omega
       have bj:=Ac a6;have s1:=fO (w.heap.size+1) g (by omega);have s2:=fO (w.heap.size+1) E' (by omega);obtain⟨dp,Y,s3,bk,bl⟩:=UR0 (w.heap.size+1) E2 cs[i].size (by omega);clear wc wf c0 hc b1 b2 hE a3 a4 a6
       go_wp2_with fail
       have an:=Ac (λw1=>jO E' (by omega) w1);have ao:=Ac (λw1=>jO cs[i].size (by omega) w1);refine Gt 6 (CQ (wr)) (QG [.int .i64 i,.int .i64 (2*(i:Int)),.int .i64 g,.slice (some ⟨w.heap.size+1,g,none⟩) (1024-g) (1024-g),.int .i64 E'] (BV 2 (BJ E' 2))) (by kernel_rfl) (by kernel_rfl) (by kernel_rfl) (λ_ _ a y=>CQ.step a y) ?hst (CQ.start _) ?hops ?hend
       case hst=>exact Qh (Xa _ _) _
       case hops =>
        intro f wx d a;obtain⟨z,B,C,D,J,u5,rfl⟩:=YQ f d;clear d;simp only[Bq,Act.put,DY,DZ,EP,EF,EH];refine⟨λh=>?_,λh=>?_,λh=>?_,λh=>?_,λh=>?_,λh=>?_,trivial⟩
        ·(clear h;refine Ae rfl ?_;go_simp;exact⟨AU _ _,rfl⟩)
        ·obtain rfl:=h 0 rfl
         (clear h;refine Ae rfl ?_;go_simp;exact⟨AU _ _,rfl⟩)
        ·obtain rfl:=h 1 rfl
         (clear h;refine Ae rfl ?_;go_simp;exact⟨AU _ _,rfl⟩)
        ·obtain rfl:=h 2 rfl
         (clear h;refine Ae rfl ?_;go_simp;exact⟨AU _ _,rfl⟩)
        ·(clear h;refine Ae rfl ?_;go_simp;exact⟨AU _ _,rfl⟩)
        ·obtain rfl:=h 4 rfl;clear h;refine Ae rfl ?_;go_simp;exact an _
       case hend =>
        intro f wx d a;obtain⟨z,B,C,D,J,u5,rfl⟩:=YQ f d;clear d;intro u;obtain⟨F,t,G,H,M,h5,_⟩:=u;obtain rfl:=H;obtain⟨A6,c6,rfl,p⟩:=h5;have j:=V.Ai a.bel;have r:=O.Ai a.bel;have o:=Ap s a.bel s.size;clear F t G M V O s an;simp only[Bq,Act.put,DY,DZ,EP,EF,EH,IC,GV];refine Jj rfl (.tmp 61) (.tmp 63) 39 39 rfl 5 IV sizeByte (some ⟨w.heap.size+1,g,none⟩) (1024-g) (1024-g) A6 2 c6 rfl rfl _ p (w.heap.size+1) g _ _ j (λ_=>rfl) (by omega) (by rw[Ql q.out (by omega)];omega) ?_;intro w9 Q R;have a7:=Ac (r.below R (by omega));have X:=Ac (show Below w.heap.size w w9 from o.trans (R.mono (by omega)));have a8:=Ac Q;clear j r R o a p Q
        go_wp2_with fail
        refine Gt 5 (CQ (w9)) (QG [.int .i64 E',.slice (some ⟨w.heap.size+1,E',none⟩) (1024-E') (1024-E'),.string cs[i],.int .i64 (cs[i].size:Nat)] (BV 2 (BJ cs[i].size 2))) (by kernel_rfl) (by kernel_rfl) (by kernel_rfl) (λ_ _ a y=>CQ.step a y) ?hst (CQ.start _) ?hops ?hend
        case hst=>exact Qh (Xa _ _) _
        case hops =>
         intro f wx d a;obtain⟨z,B,C,D,J,rfl⟩:=YR f d;clear d;simp only[Bq,Act.put,DY,DZ,EP,EF,EH];refine⟨λh=>?_,λh=>?_,λh=>?_,λh=>?_,λh=>?_,trivial⟩
         ·(clear h;refine Ae rfl ?_;go_simp;exact⟨AU _ _,rfl⟩)
         ·obtain rfl:=h 0 rfl
          (clear h;refine Ae rfl ?_;go_simp;exact⟨AU _ _,rfl⟩)
         ·(clear h;refine Ae rfl ?_;go_simp;exact⟨AU _ _,rfl⟩)
         ·obtain rfl:=h 2 rfl
          (clear h;refine Ae rfl ?_;go_simp;exact⟨AU _ _,rfl⟩)
         ·obtain rfl:=h 3 rfl;clear h;refine Ae rfl ?_;go_simp;exact ao _
        case hend =>
         intro f wx d a;obtain⟨z,B,C,D,J,rfl⟩:=YR f d;clear d;intro u;obtain⟨F,t,G,H,M,_⟩:=u;obtain rfl:=t;obtain⟨A7,c7,rfl,p⟩:=M;have j:=a8.Ai a.bel;have r:=a7.Ai a.bel;have o:=Ap X a.bel X.size;clear F G H a8 a7 X ao;simp only[Bq,Act.put,DY,DZ,EP,EF,EH,IC,GV];refine Jj rfl (.tmp 66) (.tmp 69) 39 39 rfl 5 IV sizeByte (some ⟨w.heap.size+1,E',none⟩) (1024-E') (1024-E') A7 2 c7 rfl rfl _ p (w.heap.size+1) E' _ _ j (λ_=>rfl) (by omega) (by rw[Tz _ _ _ (by rw[Bj,Ql q.out (by omega)];omega),Ql q.out (by omega)];omega) ?_;intro a9 ap ae;have aq:=Ac (r.below ae (by omega));have ar:=Ac (show Below w.heap.size w a9 from o.trans (ae.mono (by omega)));have au:=Ac ap;clear j r ae o a p ap
         obtain⟨bm,bp,av,af⟩:=QW0 (P:=Tryz.prog) (w:=a9) 39 9 3 5 IV sizeByte dp Y Y cs[i] (w.heap.size+1) E2 _ _ au bk bl (by rw[Tz _ _ _ (by rw[Bj,Tz _ _ _ (by rw[Bj,Ql q.out (by omega)];omega),Ql q.out (by omega)];omega),Tz _ _ _ (by rw[Bj,Ql q.out (by omega)];omega),Ql q.out (by omega)];omega);have bd:=Ac (aq.below af (by omega));have be:=Ac (show Below w.heap.size w bm from ar.trans (af.mono (by omega)));have aw:=Ac av;clear aq ar au af av
         go_wp2_with fail
         have ST:=bc.out;rw[<- bi.out,<- a5.out,<- bj.out]at ST;rw[ST]at aw
         go_roundw
         case rel=>exact⟨i+1,E',by omega,a5,by simp,rfl,aw,bd,be⟩
         case measure=>simp[intOf];omega
      ·obtain rfl:i=n:=by omega
       obtain⟨x,hx⟩:∃ x,I5 (GN K.toNat L.toNat cs cs.length)=x:=⟨_,rfl⟩;have x1:=eQ (GN K.toNat L.toNat cs cs.length);rw[hx]at x1
       have x2:(0:Int)<=(x:Int):=by omega
       have x3:(x:Int)<=4294967295:=by omega
       have x4:IntKind.i64.wrap (x:Int)=(x:Int):=JL _ ⟨by omega,by omega⟩;have v:=Ac hx
       have HM:Hid (KX K.toNat L.toNat cs i=[0,0,0,0]++GN K.toNat L.toNat cs cs.length):=by rw[<- Z.1];exact rfl
       have LM:=Ac (aC (k:=K.toNat) (l:=L.toNat) q (AY cs.length));have ax:=Ac (λw1=>yL x (by omega) w1);have ba:=Ac (λw1=>pF (bsOf (GN K.toNat L.toNat cs cs.length)) w1 (by rw[Df,aC q.out (AY _)];omega))
       have ag:Hid (∀ w1,Calls Tryz.prog 194 #[.string (bsOf (GN K.toNat L.toNat cs cs.length))] w1 λe w'=>e = .returned (.int .u32 x)/\w1=w'):=λw1=>by
        have:=ba w1;rw[Iu,hx]at this;exact this
       clear hx ba x1;obtain⟨bn,ah⟩:∃ m,GN K.toNat L.toNat cs cs.length=m:=⟨_,rfl⟩;rw[ah]at HM LM ag;clear ah
       go_wp2_with fail
       refine Gt 6 (CQ (wr)) (QG [.slice (some ⟨w.heap.size+1,0,none⟩) 1024 1024,.slice (some ⟨w.heap.size+1,4,none⟩) 1020 1020,.string (bsOf bn),.int .u32 x,.int .i64 x] (BV 4 (BJ x 4))) (by kernel_rfl) (by kernel_rfl) (by kernel_rfl) (λ_ _ a y=>CQ.step a y) ?hst (CQ.start _) ?hops ?hend
       case hst=>exact Qh (Xa _ _) _
       case hops =>
        intro f wx d a;obtain⟨z,B,C,D,J,u5,rfl⟩:=YQ f d;clear d;simp only[Bq,Act.put,DY,DZ,EP,EF,EH];refine⟨λh=>?_,λh=>?_,λh=>?_,λh=>?_,λh=>?_,λh=>?_,trivial⟩
        ·(clear h;refine Ae rfl ?_;go_simp;exact⟨AU _ _,rfl⟩)
        ·(clear h;refine Ae rfl ?_;go_simp;exact⟨AU _ _,rfl⟩)
        ·obtain rfl:=h 1 rfl;have hg:=V.Ai a.bel;have bb:=UR (c:=1020) (BS.CO1 hg 4 (by rw[HM.out,A8,LM.out];first | done | rfl) (by rw[HM.out];first | done | rfl));clear h;refine Ae rfl ?_;go_simp;exact⟨AU _ _,rfl⟩
        ·obtain rfl:=h 2 rfl;clear h;refine Ae rfl ?_;go_simp;refine(ag _).mono ?_;rintro e w1 ⟨rfl,rfl⟩;exact⟨_,rfl,AU _ _,rfl⟩
        ·obtain rfl:=h 3 rfl
         (clear h;refine Ae rfl ?_;go_simp;exact⟨AU _ _,rfl⟩)
        ·obtain rfl:=h 4 rfl;clear h;refine Ae rfl ?_;go_simp;exact ax _
       case hend =>
        intro f wx d a;obtain⟨z,B,C,D,J,u5,rfl⟩:=YQ f d;clear d;intro u;obtain⟨F,t,G,H,M,h5,_⟩:=u;obtain rfl:=F;obtain⟨A6,c6,rfl,p⟩:=h5;have j:=V.Ai a.bel;have o:=Ap s a.bel s.size;clear t G H M V O s ax ag;simp only[Bq,Act.put,DY,DZ,EP,EF,EH,IC,GV];refine Jj rfl (.tmp 77) (.tmp 82) 39 39 rfl 5 IV sizeByte (some ⟨w.heap.size+1,0,none⟩) 1024 1024 A6 4 c6 rfl rfl _ p (w.heap.size+1) 0 _ _ j (λ_=>rfl) (by omega) (by rw[HM.out,A8,LM.out];decide) ?_;intro w9 Q R;have X:=Ac (show Below w.heap.size w w9 from o.trans (R.mono (by omega)));have ad:=DC1 (k:=K.toNat) (l:=L.toNat) (cs:=cs);rw[v.out,Z.1]at ad;rw[ad]at Q;have bb:=UR (c:=1024) (BS.CO1 (n:=1024) Q 0 (by rw[Zx q.out]) rfl)
        have T:Hid (Ending.returned (.tuple #[.string (bsOf (Rx K.toNat L.toNat cs)),.int .i64 0]) = .returned (.tuple #[.string (Dj K L cs),.int .i64 (Qz K L cs)])):=by
         have q1:¬(K<1\/5<K\/L<0\/2147483647<L):=by omega
         show _=_;rw[Dj,Qz,AO (by omega),AO q1,AO (by omega)]
        rw[GV]at bb;clear j R o a p Q ad
        go_wp2_with fail
        go_ret2;exact⟨T,X⟩
def QD:List (Value->World->Prop)->Nat->Value->World->Prop
 | [],_,_,_=>True
 | R :: _,0,u,w=>R u w
 | _ :: Rs,j+1,u,w=>QD Rs j u w
def TY(R:Value->World->Prop):Prop:=∀ u (w w':World),Below w.heap.size w w'->R u w->R u w'
def oG:List (Value->World->Prop)->Prop
 | []=>True
 | R :: Rs=>TY R/\oG Rs
def Qj:∀ (a:List (Value->World->Prop)),oG a->∀ j u (w w':World),Below w.heap.size w w'->QD a j u w->QD a j u w'
 | [],_,_,_,_,_,_,h=>h
 | _ :: _,hs,0,u,w,w',hb,h=>hs.1 u w w' hb h
 | _ :: a,hs,j+1,u,w,w',hb,h=>Qj a hs.2 j u w w' hb h
def Bh(v:Value):TY (λu _=>u=v):=λ_ _ _ _ h=>h
def Hq(l:List UInt8)(o:Nat):Nat:=256*(l.getD o 0).toNat+(l.getD (o+1) 0).toNat
def Wj(l:List UInt8)(o:Nat):Nat:=65536*Hq l o+Hq l (o+2)
def Uz(l:List UInt8)(o:Nat):Hq l o<65536:=by
 have a:=Ic (l.getD o 0);have b:=Ic (l.getD (o+1) 0);unfold Hq;omega
def rU(l:List UInt8)(o:Nat):Wj l o<4294967296:=by
 have a:=Uz l o;have b:=Uz l (o+2);unfold Wj;omega
def getD_byte(s:ByteArray)(i:Nat)(h:i<s.size):(s.data.toList.getD i 0)=s[i]:=by
 rw[LH,byte_at s i h];rfl
def xP(a b:Nat)(e:a<4611686018427387904)(f:b<4611686018427387904):bits .or .i64 (a:Int) (b:Int)=((a ||| b:Nat):Int):=by
 have g:a ||| b<2 ^ 62:=Nat.or_lt_two_pow (by omega) (by omega)
 have c:(BitVec.ofInt 64 (a:Int)).toNat=a:=by
  rw[nT,dP];exact XX (by omega)
 have d:(BitVec.ofInt 64 (b:Int)).toNat=b:=by
  rw[nT,dP];exact XX (by omega)
 show IntKind.i64.wrap ((BitVec.ofInt 64 (a:Int) ||| BitVec.ofInt 64 (b:Int)).toNat:Int)=_;rw[BitVec.toNat_or,c,d];exact JL _ ⟨by omega,by omega⟩
def PE1(a b:Nat)(c:a<256)(d:b<256):bits .or .i64 ((a:Int)*256) (b:Int)=((256*a+b:Nat):Int):=by
 rw[show((a:Int)*256)=((256*a:Nat):Int)by omega,xP _ _ (by omega) (by omega),nat_join 8 (256*a) b (by omega) (by omega)]
def JI1(a b:Nat)(c:a<65536)(d:b<65536):bits .or .i64 ((a:Int)*65536) (b:Int)=((65536*a+b:Nat):Int):=by
 rw[show((a:Int)*65536)=((65536*a:Nat):Int)by omega,xP _ _ (by omega) (by omega),nat_join 16 (65536*a) b (by omega) (by omega)]
def Xk (s:ByteArray) (o:Nat) (l:o+2<=s.size) (m:s.size<=1048576) (w:World) :
 Calls Tryz.prog 196 #[.string s,.int .i64 o] w λe w'=>e = .returned (.int .i64 (Hq s.data.toList o:Nat))/\Below w.heap.size w w':=by
 have d:o<s.size:=by omega
 have f:o+1<s.size:=by omega
 have n:(o:Int)<(s.size:Int):=by omega
 have p:(o:Int)+1<(s.size:Int):=by omega
 have w1:IntKind.i64.wrap ((o:Int)+1)=(o:Int)+1:=JL _ ⟨by omega,by omega⟩
 have q:((o:Int)+1).toNat=o+1:=by omega
 have r:(0:Int)<=(o:Int)+1:=by omega
 have a:=Ic s[o];have b:=Ic s[o+1]
 have E:bits .or .i64 (wrap64 (wrap64 (s[o].toNat:Int)*256)) (wrap64 (s[o+1].toNat:Int))=((Hq s.data.toList o:Nat):Int):=by
  have g:wrap64 (s[o].toNat:Int)=(s[o].toNat:Int):=by unfold wrap64;omega
  have h:wrap64 (s[o+1].toNat:Int)=(s[o+1].toNat:Int):=by unfold wrap64;omega
  have i:wrap64 ((s[o].toNat:Int)*256)=(s[o].toNat:Int)*256:=by unfold wrap64;omega
  rw[g,h,i,PE1 _ _ a b,Hq,getD_byte s o d,getD_byte s (o+1) f]
 have j:=Ac E;clear E a b;go_enter Tryz.func196,Tryz.ntmps196
 go_wp2_with fail
 refine Du (w) (by kernel_rfl) (by kernel_rfl) (CQ.start _) ?_
 repeat
  first
   | go_big_quiet_skip
   |(go_big_quiet_want;(first | go_big_quiet_op | go_simp);first | go_big_quiet_on |(apply NC;refine⟨λw' c=>?_, ?_⟩;(·(first |(with_reducible exact rfl) |(fail) |(obtain⟨t,u⟩:=c.facts;go_simp;first | done |(with_reducible exact rfl) |(with_reducible exact⟨rfl,rfl⟩))));go_big_quiet_on))
 refine MQ ?_;intro v k
 go_wp2_with fail
 go_ret;exact⟨UN j,k.bel⟩
def wK (s:ByteArray) (o:Nat) (j:o+4<=s.size) (c:s.size<=1048576) (w:World) :
 Calls Tryz.prog 195 #[.string s,.int .i64 o] w λe w'=>e = .returned (.int .i64 (Wj s.data.toList o:Nat))/\Below w.heap.size w w':=by
 have d:=Ac (λw1=>Xk s o (by omega) c w1)
 have a:=(λw1=>Xk s (o+2) (by omega) c w1)
 rw[show((o+2:Nat):Int)=(o:Int)+2 by omega]at a;have f:=Ac a;clear a;have l1:=Uz s.data.toList o;have l2:=Uz s.data.toList (o+2)
 have E:bits .or .i64 ((Hq s.data.toList o:Int)*65536) (Hq s.data.toList (o+2):Int)=((Wj s.data.toList o:Nat):Int):=by
  rw[JI1 _ _ l1 l2,Wj]
 obtain⟨x,g⟩:∃ x,Hq s.data.toList o=x:=⟨_,rfl⟩;obtain⟨y,h⟩:∃ y,Hq s.data.toList (o+2)=y:=⟨_,rfl⟩;rw[g]at E d l1;rw[h]at E f l2;have i:=Ac E;clear E g h;go_enter Tryz.func195,Tryz.ntmps195
 go_wp2_with (first |(go_at_call 196;(with_reducible refine(d.out _).mono ?_);rintro e w1 ⟨rfl,b⟩) |(go_at_call 196;(with_reducible refine(f.out _).mono ?_);rintro e k ⟨rfl,hb2⟩))
 go_ret;exact⟨UN i,Ap b hb2 b.size⟩
end Go.Proofs.YtjihboddejaelaaGreat
namespace Go.Proofs.YtjihboddejaelaaGreat
open Go.RowKit
def Pn (s:ByteArray):Nat->Option (List ByteArray)
 | 0=>some []
 | i+1=>(Pn s i).bind λcs =>
   if 1024<Hq s.data.toList (12+2*i)+2\/1024<Hq s.data.toList (12+2*i)+2+Hq s.data.toList (Hq s.data.toList (12+2*i))then none
   else some (cs++[s.extract (Hq s.data.toList (12+2*i)+2) (Hq s.data.toList (12+2*i)+2+Hq s.data.toList (Hq s.data.toList (12+2*i)))])
abbrev Pg:=Nat×Nat×List ByteArray
def fin(s:ByteArray)(k l:Nat)(cs:List ByteArray):Option Pg:=if Qz k l cs=0/\Dj k l cs=s then some (k,l,cs)else none
def NS(s:ByteArray)(n:Nat):Option Pg:=(Pn s n).bind λcs=>fin s (s.data.toList.getD 4 0).toNat (Wj s.data.toList 8) cs
def Ie(s:ByteArray):Option Pg:=if s.size≠1024\/Wj s.data.toList 0≠I5 (s.data.toList.drop 4)\/1024<12+2*Hq s.data.toList 6 then none else NS s (Hq s.data.toList 6)
def ZP(s:ByteArray)(p:Pg):Prop:=1<=p.1/\p.1<=5/\p.2.1<=2147483647/\Ce p.2.2<=1012/\bsOf (Rx p.1 p.2.1 p.2.2)=s
def xW{k l:Nat}{cs:List ByteArray}:Qz k l cs=0↔1<=k/\k<=5/\l<=2147483647/\Ce cs<=1012:=by
 unfold Qz
 split
 ·simp;omega
 ·split
  ·simp;omega
  ·simp;omega
def Rn{k l:Nat}{cs:List ByteArray}(h:1<=k/\k<=5/\l<=2147483647/\Ce cs<=1012):Dj k l cs=bsOf (Rx k l cs):=by
 unfold Dj;rw[AO (by omega)];simp
def oJ{s:ByteArray}{k l:Nat}{cs:List ByteArray}{p:Pg}:fin s k l cs=some p↔p=(k,l,cs)/\ZP s p:=by
 unfold fin;constructor
 ·intro h
  split at h
  ·rename_i a
   injection h with h
   subst h;have:=xW.1 a.1;exact⟨rfl,this.1,this.2.1,this.2.2.1,this.2.2.2,by rw[<- Rn this];exact a.2⟩
  ·cases h
 ·rintro ⟨rfl,b,c,d,e,f⟩;rw[AC ⟨xW.2 ⟨b,c,d,e⟩,by rw[Rn ⟨b,c,d,e⟩];exact f⟩]
def iV(a b:List UInt8)(x:UInt8):(a++x :: b).getD a.length 0=x:=by
 rw[LH,GU (AY _)];simp
def XH{a b:List UInt8}{x o:Nat}(c:a.length=o)(f:x<65536):Hq (a++(BJ x 2++b)) o=x:=by
 subst c
 have d:(a++(BJ x 2++b)).getD a.length 0=UInt8.ofNat (x / 256):=by rw[UJ];exact iV a _ _
 have e:(a++(BJ x 2++b)).getD (a.length+1) 0=UInt8.ofNat x:=by
  rw[UJ,show a++([UInt8.ofNat (x / 256),UInt8.ofNat x]++b)=(a++[UInt8.ofNat (x / 256)])++UInt8.ofNat x :: b by simp];have:=iV (a++[UInt8.ofNat (x / 256)]) b (UInt8.ofNat x);rw[A8]at this;exact this
 rw[Hq,d,e,MR,MR];omega
def qK{a b:List UInt8}{x o:Nat}(c:a.length=o)(h:x<4294967296):Wj (a++(BJ x 4++b)) o=x:=by
 have e:a++(BJ x 4++b)=a++(BJ (x / 65536) 2++(BJ x 2++b)):=by rw[oW,BU]
 have d:Hq (a++(BJ x 4++b)) o=x / 65536:=by rw[e];exact XH c (by omega)
 have f:Hq (a++(BJ x 4++b)) (o+2)=x % 65536:=by
  rw[e,<- BU]
  have g:BJ x 2=BJ (x % 65536) 2:=by
   rw[UJ,UJ]
   congr 1
   ·apply lX.1;rw[MR,MR];omega
   ·congr 1;apply lX.1;rw[MR,MR];omega
  rw[g];exact XH (by rw[A8,c,Bj]) (by omega)
 rw[Wj,d,f];omega
def QF0(a b:List ByteArray):Kw (a++b)=Kw b++Kw a:=by
 induction a with
 | nil=>simp[Kw]
 | cons c a d=>simp[Kw,d]
def zC (cs:List ByteArray):∀ {n i:Nat},i<n->∃ r,Zi cs n=Zi cs i++(BJ (1024-Jn (cs.take (i+1))) 2++r)
 | n+1,i,h=>by
   by_cases a:i=n
   ·subst a;exact⟨[],by simp[Zi]⟩
   ·obtain ⟨r,b⟩:=zC cs (show i<n by omega);exact⟨r++BJ (1024-Jn (cs.take (n+1))) 2,by rw[Zi,b];simp⟩
def XI(k l:Nat)(cs:List ByteArray):∃ r,Rx k l cs=BJ (I5 (GN k l cs cs.length)) 4++([UInt8.ofNat k,0]++(BJ cs.length 2++(BJ l 4++(Zi cs cs.length++r))))/\∃ z,r=z++Kw cs:=by
 refine⟨_, ?_,List.replicate (1012-2*cs.length-Jn (cs.take cs.length)) 0,rfl⟩;rw[Rx]
 congr 1
 rw[GN,TV,QU];simp only[BU]
section
variable {k l:Nat} {cs:List ByteArray}
def QC1(d:Ce cs<=1012):Wj (Rx k l cs) 0=I5 ((Rx k l cs).drop 4):=by
 have:=qK (a:=[]) (b:=GN k l cs cs.length) (o:=0) rfl (eQ (GN k l cs cs.length))
 have c:(Rx k l cs).drop 4=GN k l cs cs.length:=by
  rw[Rx];exact List.drop_left' (Bj 4 _)
 rw[c];exact this
def NF1(a:Ce cs<=1012)(b:k<=5):((Rx k l cs).getD 4 0).toNat=k:=by
 obtain⟨r,h,_⟩:=XI k l cs;rw[h];have:=iV (BJ (I5 (GN k l cs cs.length)) 4) ([0]++(BJ cs.length 2++(BJ l 4++(Zi cs cs.length++r)))) (UInt8.ofNat k);rw[Bj]at this;rw[show ∀ t:List UInt8,[UInt8.ofNat k,0]++t=UInt8.ofNat k :: ([0]++t)from λ_=>rfl,this,MR];omega
def vF(a:Ce cs<=1012):cs.length<=253:=by
 have:=uQ cs
 have b:2*cs.length<=Jn cs:=by
  clear a this
  induction cs with
  | nil=>simp
  | cons c cs d=>simp only[Jn,DW,PW,DF]at *;omega
 omega
def KJ1(a:Ce cs<=1012):Hq (Rx k l cs) 6=cs.length:=by
 obtain⟨r,h,_⟩:=XI k l cs;have b:=vF a;rw[h,<- BU];exact XH (by rw[A8,Bj];rfl) (by omega)
def ON1(a:Ce cs<=1012)(b:l<=2147483647):Wj (Rx k l cs) 8=l:=by
 obtain⟨r,h,_⟩:=XI k l cs;rw[h,<- BU,<- BU];exact qK (by rw[A8,A8,Bj,Bj];rfl) (by omega)
def MN1(d:Ce cs<=1012){i:Nat}(a:i<cs.length):Hq (Rx k l cs) (12+2*i)=1024-Jn (cs.take (i+1)):=by
 obtain⟨r,h,_⟩:=XI k l cs;obtain⟨b,c⟩:=zC cs a;rw[h,c,BU (Zi cs i),BU (BJ _ 2) b,<- BU,<- BU,<- BU,<- BU];exact XH (by simp only[A8,Bj,Zw];rfl) (by omega)
def NN1(b:Ce cs<=1012){i:Nat}(c:i<cs.length):∃ X Y,Rx k l cs=X++(BJ cs[i].size 2++(cs[i].data.toList++Y))/\X.length=1024-Jn (cs.take (i+1)):=by
 obtain⟨r,h,z,e⟩:=XI k l cs
 have d:Kw cs=Kw (cs.drop (i+1))++(BJ cs[i].size 2++(cs[i].data.toList++Kw (cs.take i))):=by
  conv=>lhs;rw[<- DX (i+1) cs]
  rw[QF0,JS c,xQ];simp only[BU]
 have a:=Zx (k:=k) (l:=l) b;have f:=WU b (i+1) (by omega);have g:=Yd cs c;subst e;refine⟨BJ (I5 (GN k l cs cs.length)) 4++([UInt8.ofNat k,0]++(BJ cs.length 2++(BJ l 4++(Zi cs cs.length++(z++Kw (cs.drop (i+1))))))),Kw (cs.take i), ?_, ?_⟩
 ·rw[h,d];simp only[BU]
 ·rw [h,d] at a;simp only[A8,Bj,jA,JX]at a ⊢;rw[show cs[i].data.size=cs[i].size from rfl]at a;omega
def CQ1 (b:Ce cs<=1012):∀ {i:Nat},i<=cs.length->Pn (bsOf (Rx k l cs)) i=some (cs.take i)
 | 0,_=>rfl
 | i+1,h=>by
   have a:i<cs.length:=by omega
   obtain⟨X,Y,c,d⟩:=NN1 (k:=k) (l:=l) b a;have m:=WU b (i+1) h;have n:=Yd cs a;have e:=MN1 (k:=k) (l:=l) b a
   have f:Hq (Rx k l cs) (1024-Jn (cs.take (i+1)))=cs[i].size:=by
    rw[c];exact XH d (by omega)
   rw[Pn,CQ1 b (by omega),bV,Iu,e,f,AO (by omega),JS a]
   congr 3
   have g:(Rx k l cs).drop (1024-Jn (cs.take i++[cs[i]])+2)=cs[i].data.toList++Y:=by
    rw[<- JS a,c,<- BU];exact List.drop_left' (by rw[A8,d,Bj])
   have j:1024-Jn (cs.take i++[cs[i]])+2+cs[i].size-(1024-Jn (cs.take i++[cs[i]])+2)=cs[i].data.toList.length:=by simp
   rw[Lib.extract_eq,Iu,g,j,PV]
end
def ZN0{s:ByteArray}{n:Nat}{p:Pg}(h:NS s n=some p):ZP s p:=by
 unfold NS at h;obtain⟨cs,_,a⟩:=Option.bind_eq_some_iff.1 h;exact(oJ.1 a).2
def TM0{s:ByteArray}{p:Pg}(h:ZP s p):NS s p.2.2.length=some p:=by
 obtain⟨k,l,cs⟩:=p;obtain⟨d,b,c,a,e⟩:=h;simp only at d b c a e;subst e;unfold NS;rw[CQ1 a (AY _),QU,bV,Iu,NF1 a b,ON1 a c,oJ];exact⟨rfl,d,b,c,a,rfl⟩
def Nz{s:ByteArray}{p:Pg}:Ie s=some p↔ZP s p:=by
 constructor
 ·intro h;unfold Ie at h
  split at h
  ·cases h
  ·exact ZN0 h
 ·intro h;have c:=h;obtain⟨g,i,j,a,b⟩:=h
  have d:Hq s.data.toList 6=p.2.2.length:=by rw[<- b,Iu];exact KJ1 a
  have k:=vF a
  have e:Wj s.data.toList 0=I5 (s.data.toList.drop 4):=by rw[<- b,Iu];exact QC1 a
  have f:s.size=1024:=by rw[<- b,Df];exact Zx a
  unfold Ie;rw[AO (by rintro(h | h | h);exact h f;exact h e;omega),d];exact TM0 c
structure Pl where
 L:Lg
 most:Nat
 ring:List Pf
 pages:Nat
 free:Nat
 turned:List Nat
 hits:Int
 misses:Int
 spills:Int
def Ns(x:Nat)(F:List Pf):List Pf:=F.filter (λf=>f.n != x)
def NQ(x:Int)(F:List Pf):Option Pf:=F.find? (λf=>(f.n:Int) == x)
def idle(F:List Pf):Option Pf:=F.find? (λf=>f.pins == 0)
def Vq(x:Nat)(T:List Nat):List Nat:=if x∈T then T else x :: T
def Hu:ByteArray:=Dj 3 0 []
def Pl.Io(P:Pl)(f:Pf):Pl×Int :=
 if f.dirty then
  if P.L.Dp f.n f.s=0 then({ P with L:=P.L.append f.n f.s,spills:=wrap64 (P.spills+1),ring:=Ns f.n P.ring },0)
  else({ P with L:=P.L.append f.n f.s },P.L.Dp f.n f.s)
 else({ P with ring:=Ns f.n P.ring },0)
def Pl.room(P:Pl):Pl×Int :=
 if P.ring.length<P.most then (P,0) else match idle P.ring with
  | none=>(P,6)
  | some f=>P.Io f
def Pl.fetch(P:Pl)(x:Nat):Pl×Int :=
 if P.L.rw.Dy x=0 then({ P with misses:=wrap64 (P.misses+1),ring:=P.ring++[⟨x,P.L.rw.Fa x,0,false⟩] },0)else(P,P.L.rw.Dy x)
def Pl.get(P:Pl)(x:Int):Pl×Int :=
 if 0<=x/\x<(P.pages:Int) then
  match NQ x P.ring with
  | some f=>({ P with hits:=wrap64 (P.hits+1),ring:=Ns f.n P.ring++[f] },0)
  | none=>if P.room.2=0 then P.room.1.fetch x.toNat else P.room
 else(P,7)
def Pl.Pv(P:Pl):Pf:=P.ring.getLastD QE
def Pl.setLast(P:Pl)(f:Pf):Pl:={ P with ring:=P.ring.dropLast++[f] }
def Pl.put(P:Pl)(x:Int)(s:ByteArray):Pl×Int :=
 if(P.get x).2=0 then({ (P.get x).1.setLast { (P.get x).1.Pv with s:=s,dirty:=true }with turned:=Vq x.toNat (P.get x).1.turned },0)else P.get x
def Pl.write(P:Pl)(x:Int)(s:ByteArray):Pl×Int:=if x=0\/s.size≠1024 then(P,1)else P.put x s
def Pl.Dc(P:Pl)(n:Nat):Pl×Int :=
 if (P.get 0).2=0 then
  match Ie (P.get 0).1.Pv.s with
  | none=>((P.get 0).1,4)
  | some pg =>
    if((P.get 0).1.put 0 (Dj 4 n pg.2.2)).2=0 then({ ((P.get 0).1.put 0 (Dj 4 n pg.2.2)).1 with free:=n },0)
    else(P.get 0).1.put 0 (Dj 4 n pg.2.2)
 else P.get 0
def Pl.grow(P:Pl):Pl×Int :=
 if P.room.2=0 then({ P.room.1 with pages:=P.room.1.pages+1,ring:=P.room.1.ring++[⟨P.room.1.pages,Hu,0,true⟩],turned:=Vq P.room.1.pages P.room.1.turned },0)else P.room
def Pl.reuse(P:Pl):Pl×Int :=
 if (P.get P.free).2=0 then
  match Ie (P.get P.free).1.Pv.s with
  | none=>((P.get P.free).1,4)
  | some pg =>
    if((P.get P.free).1.Dc pg.2.1).2=0 then((P.get P.free).1.Dc pg.2.1).1.put P.free Hu
    else(P.get P.free).1.Dc pg.2.1
 else P.get P.free
def Pl.alloc(P:Pl):Pl×Int:=if P.free=0 then(if 67108864<(P.pages+1)*1024 then(P,8)else P.grow)else P.reuse
def Pl.Aj(P:Pl):Nat:=if P.free=0 then P.pages else P.free
def Pl.O6(P:Pl)(x:Int):Pl×Int :=
 if x=0 then(P,1)
 else if(P.put x (Dj 3 P.free [])).2=0 then(P.put x (Dj 3 P.free [])).1.Dc x.toNat
 else P.put x (Dj 3 P.free [])
def Jl(x:Nat)(F:List Pf):List Pf:=F.map (λf=>if f.n=x then{ f with dirty:=false }else f)
def Vb(x:Nat)(F:List Pf):ByteArray:=((NQ x F).map (·.s)).getD ⟨#[]⟩
def Pl.flush:List Nat->Pl->Pl×Int
 | [],P=>(P,0)
 | [n],P =>
   if P.L.Ez n (Vb n P.ring) P.pages=0 then({ P with L:=P.L.Bi n (Vb n P.ring) P.pages,ring:=Jl n P.ring },0)
   else({ P with L:=P.L.Bi n (Vb n P.ring) P.pages },P.L.Ez n (Vb n P.ring) P.pages)
 | n :: m :: r,P =>
   if P.L.Dp n (Vb n P.ring)=0 then Pl.flush (m :: r) { P with L:=P.L.append n (Vb n P.ring),ring:=Jl n P.ring }
   else({ P with L:=P.L.append n (Vb n P.ring) },P.L.Dp n (Vb n P.ring))
def Gj(F:List Pf):List Nat:=((F.filter (·.dirty)).map (·.n)).mergeSort (·<= ·)
def Pl.told(R:Pl×Int):Pl×Int :=
 if R.2=0 then
  (if 1000<=R.1.L.fs.length then({ R.1 with turned:=[],L:=R.1.L.Ah.1 },R.1.L.Ah.2)else({ R.1 with turned:=[] },0))
 else R
def Pl.Bi(P:Pl):Pl×Int :=
 if P.turned=[]then(P,0)
 else if Gj P.ring=[]then(if(P.get 0).2=0 then Pl.told (Pl.flush [0] (P.get 0).1)else P.get 0)
 else Pl.told (Pl.flush (Gj P.ring) P)
def Pl.root(P:Pl):Pl×Int :=
 if (P.get 0).2=0 then
  match Ie (P.get 0).1.Pv.s with
  | none=>({ (P.get 0).1 with free:=0 },4)
  | some pg=>({ (P.get 0).1 with free:=pg.2.1 },0)
 else P.get 0
def Pl.rolled(P:Pl):Pl:={ P with L:=P.L.back,ring:=P.ring.filter (λf=>!(decide (f.n∈P.turned))),turned:=[],pages:=P.L.pages }
def Pl.Gz(P:Pl):Pl×Int:=if P.ring.any (λf=>decide (0<f.pins))then(P,6)else P.rolled.root
open Go.BigFrame Go.Maps
def Nj:Value->Option (DataW Unit×List MemPlace)
 | .pointer none=>some (.lit (.int .i64 (-1)),[])
 | .pointer (some ⟨b,0,none⟩)=>some (.lit (.int .i64 (b:Int)),[])
 | _=>none
def MN:Option Nat->Value
 | none=>.pointer none
 | some b=>.pointer (some ⟨b,0,none⟩)
def kL{v:Value}{x:Int}{ps:List MemPlace}(h:Nj v=some (.lit (.int .i64 x),ps)):(x = -1/\v = .pointer none)\/∃ b:Nat,x=b/\v = .pointer (some ⟨b,0,none⟩):=by
 unfold Nj at h
 split at h
 ·injection h with h;injection h with h1 h2;injection h1 with h3;injection h3 with h4 h5;exact .inl ⟨h5.symm,rfl⟩
 ·rename_i b
  injection h with h;injection h with h1 h2;injection h1 with h3;injection h3 with h4 h5;exact .inr ⟨b,h5.symm,rfl⟩
 ·cases h
def Says(D:DataW Unit)(g:Int->Option Nat):Prop:=∀ x:Int,(g x=none->Maps.has D (.int .i64 x)=false)/\∀ v,g x=some v->∀ z,D.atKey (.int .i64 x) z = .lit (.int .i64 (v:Int))
def Says.has{D:DataW Unit}{g:Int->Option Nat}(h:Says D g)(x:Int):Maps.has D (.int .i64 x)=(g x).isSome:=by
 cases a:g x with
 | none=>rw[(h x).1 a];rfl
 | some v=>rw[has_true_of_atKey ((h x).2 v a)];rfl
def Says.put{D:DataW Unit}{g:Int->Option Nat}(f:Maps.IsMap D)(h:Says D g)(k:Int)(v:Nat):Says (D.put (.int .i64 k) (.lit (.int .i64 (v:Int)))) (λy=>if y=k then some v else g y):=λx=>by
 dsimp only;by_cases a:x=k
 ·subst a;rw[AC rfl];exact⟨λh=>(by cases h),λd h z=>by cases h;exact atKey_put_same (k:=.int .i64 x) f trivial _ _⟩
 ·have c:(Lit.int .i64 x) ≠ .int .i64 k:=λe=>by cases e;exact a rfl
  rw[AO a];refine⟨λb=>?_,λd b z=>?_⟩
  ·rw[has_put_other c];exact(h x).1 b
  ·rw[atKey_put_other c];exact(h x).2 d b z
def Says.del{D:DataW Unit}{g:Int->Option Nat}(h:Says D g)(k:Int):Says (D.del (.int .i64 k)) (λy=>if y=k then none else g y):=λx=>by
 dsimp only;by_cases a:x=k
 ·subst a;rw[AC rfl];exact⟨λ_=>has_del_same,λd h=>by cases h⟩
 ·have c:(Lit.int .i64 x) ≠ .int .i64 k:=λe=>by cases e;exact a rfl
  rw[AO a];refine⟨λb=>?_,λd b z=>?_⟩
  ·rw[has_del_other c];exact(h x).1 b
  ·rw[atKey_del_other c];exact(h x).2 d b z
def wH{R:Value->Option (DataW Unit×List MemPlace)}{w:World}{b n:Nat}{D:DataW Unit}(h:w.ownsMap Tryz.prog 3 R b n D):w.ownsMap Tryz.prog 3 R b (Maps.size D) D:=by
 obtain⟨a,cl,c,F,d,rfl⟩:=h;exact⟨a,cl,c,F,by simp[Maps.size,length_sorted],rfl⟩
def GM(R:Value->Option (DataW Unit×List MemPlace))(w:World)(b:Nat)(g:Int->Option Nat)(c:Nat):Prop:=∃ D:DataW Unit,w.ownsMap Tryz.prog 3 R b c D/\Says D g/\Maps.size D=c
section
variable {R:Value->Option (DataW Unit×List MemPlace)} {w w':World} {b c:Nat} {g g':Int->Option Nat}
def GM.lt(h:GM R w b g c):b<w.heap.size:=by
 obtain⟨D,a,_⟩:=h;exact a.lt
def GM.block(h:GM R w b g c)(a:w'.heap[b]? = w.heap[b]?):GM R w' b g c:=by
 obtain⟨D,⟨d,cl,e,f⟩,i⟩:=h;exact⟨D,⟨d,cl,a.trans e,f⟩,i⟩
def GM.below(h:GM R w b g c)(a:Below w.heap.size w w'):GM R w' b g c:=h.block (a.block b h.lt)
def GM.turn{x y:List (Option Nat)}(h:GM R w b g c)(a:Turn x y w w')(d:some b∉x):GM R w' b g c:=h.block (a.block b h.lt d)
def GM.far(h:GM R w b g c){p:Addr}(a:b≠p.block)(u:Value):GM R (w.setCell p u) b g c:=h.block (CX w p u b a)
def GM.made(R:Value->Option (DataW Unit×List MemPlace))(w:World):GM R (w.alloc (.map #[] 0)) w.heap.size (λ_=>none) 0:=⟨_,World.ownsMap_made _ _ _ _,λx=>⟨λ_=>rfl,λt h=>by cases h⟩,rfl⟩
def GM.congr(h:GM R w b g c)(e:∀ x,g x=g' x):GM R w b g' c:=by
 have:g=g':=funext e
 rwa [<- this]
def GM.Gx(h:GM R w b g c){t:TypeId}{cs:Array Value}(a:Has w b t cs):False:=by
 obtain⟨D,⟨e,cl,d,_⟩,_⟩:=h;unfold Has at a;rw[a]at d;cases d
def GM.put {t e:TypeId} (a : Tryz.prog.underlying t=some (.map 3 e)) (h:GM R w b g c) (q:c<=100000000) (k:Int) (j:(Lit.int .i64 k).wf=true) {val:Value} {v:Nat} {ps:List MemPlace} (l:R val=some (.lit (.int .i64 (v:Int)),ps)) :
 ∃ w',(Instr.mapUpdate t (.map (some b)) (.int .i64 k) val).run Tryz.prog w = .ok () w'/\GM R w' b (λy=>if y=k then some v else g y) (if(g k).isSome then c else c+1)/\w.grownBy w' (some b):=by
 obtain⟨D,d,i,m⟩:=h;obtain⟨w',n,o,p⟩:=d.update Ol a (by unfold maxLen;omega) (keyOf_int_mk IB j) l;have f:=size_put (k:=.int .i64 k) (d.tidy Ol) (.lit (.int .i64 (v:Int)));rw[i.has,m]at f;have a:=wH o;rw[f]at a;exact⟨w',n,⟨_,a,i.put d.isMap k v,f⟩,p⟩
def GM.del {t e:TypeId} (a : Tryz.prog.underlying t=some (.map 3 e)) (h:GM R w b g c) (k:Int) (m:(Lit.int .i64 k).wf=true) (i:TypeId) :
 ∃ w',(Builtin.delete_ #[t,3] i #[.map (some b),.int .i64 k]).run Tryz.prog w = .ok (.tuple #[]) w'/\GM R w' b (λy=>if y=k then none else g y) (if(g k).isSome then c-1 else c)/\w.grownBy w' (some b):=by
 obtain⟨D,j,l,n⟩:=h;obtain⟨w',o,p,q⟩:=j.drop Ol a (keyOf_int_mk IB m) i;have d:=size_del (k:=.int .i64 k) (j.tidy Ol);rw[l.has,n]at d
 have f:Maps.size (D.del (.int .i64 k))=if(g k).isSome then c-1 else c:=by
  cases r:(g k).isSome <;> rw[r]at d <;> simp at d ⊢ <;> omega
 have a:=wH p;rw[f]at a;exact⟨w',o,⟨_,a,l.del k,f⟩,q.grown⟩
end
section
variable {w:World} {ops:Array Oper} {rest:List Oper} {o:Oper} {a:Act} {Q:Exit->Act->World->Prop}
def OY1(w:World):(zeroValue 102).run Tryz.prog w = .ok (.pointer none) w:=by kernel_rfl
def Dv (w:World) {ops:Array Oper} {rest:List Oper} {o:Oper} {a:Act} {Q:Exit->Act->World->Prop} (q:o.guard=none) (m x:Operand) (l:o.op=Op.lookup 103 m x false) (b c:Nat) (g:Int->Option Nat)
 (r:a.eval m = .map (some b)) (h:GM Nj w b g c) (k:Int) (s:a.eval x = .int .i64 k) (t:(Lit.int .i64 k).wf=true)
 (u:wpList Tryz.prog ops Q rest (a.put o.dst (MN (g k))) w):wpList Tryz.prog ops Q (o :: rest) a w:=by
 obtain⟨D,A,i,C⟩:=h;refine bK q λE n=>?_;obtain⟨v,ps,j,d⟩:=A.lookup Ol XO (OY1 w) (zd:=.lit (.int .i64 (-1))) (zp:=[]) rfl (keyOf_int_mk IB t)
 have p:v=MN (g k):=by
  cases f:g k with
  | none =>
    rw[atKey_of_not_has ((i k).1 f)]at d
    rcases kL d with⟨_,e⟩ |⟨y,e,_⟩
    ·exact e
    ·omega
  | some y =>
    rw[(i k).2 y f]at d
    rcases kL d with⟨e,_⟩ |⟨z,e,B⟩
    ·omega
    ·have:z=y:=by omega
     rw[B,this];rfl
 subst p;unfold Oper.wp;simp[execOp,l,r,s,j,Result.andThen];exact n _ _ u
def BJ0 {R:Value->Option (DataW Unit×List MemPlace)} (w:World) {ops:Array Oper} {rest:List Oper} {o:Oper} {a:Act} {Q:Exit->Act->World->Prop} (l:o.guard=none) (m x v:Operand) (t e:TypeId) (i:o.op=Op.mapUpdate t m x v)
 (n : Tryz.prog.underlying t=some (.map 3 e)) (b c:Nat) (g:Int->Option Nat) (p:a.eval m = .map (some b)) (h:GM R w b g c) (q:c<=100000000) (k:Int) (r:a.eval x = .int .i64 k) (s:(Lit.int .i64 k).wf=true)
 (val:Value) (y:Nat) (d:a.eval v=val) (ps:List MemPlace) (u:R val=some (.lit (.int .i64 (y:Int)),ps))
 (A:∀ w',GM R w' b (λz=>if z=k then some y else g z) (if(g k).isSome then c else c+1)->w.grownBy w' (some b)->wpList Tryz.prog ops Q rest (a.put o.dst undef) w'):wpList Tryz.prog ops Q (o :: rest) a w:=by
 refine bK l λD j=>?_;obtain⟨w',f,B,C⟩:=h.put n q k s u;unfold Oper.wp;simp[execOp,i,p,r,d,f,Result.andThen];exact j _ _ (A w' B C)
end
def DJ1(v:Nat)(a:v<=4611686018427387904):plainElem (H:=Unit) Tryz.prog 3 (.int .i64 (v:Int))=some (.lit (.int .i64 (v:Int)),[]):=plainElem_int IB (KU (by omega) (by omega))
end Go.Proofs.YtjihboddejaelaaGreat
namespace Go.Proofs.YtjihboddejaelaaGreat
open Go.RowKit Go.BigFrame
section
variable {w w':World} {e:Nat} {A A1 A2:List Nat} {a:Nat} {F F1 F2:List Pf} {f:Pf}
def Ring.RL1 (h:Ring w e (A1++a :: A2) (F1++f :: F2)) (x:A1.length=F1.length) :
 (∃ u v,Has w (A1.getLastD e) 166 (JO u v a))/\∃ u v,Has w (A2.headD e) 166 (JO u a v):=by
 obtain⟨y,A,j,i,k⟩:=Rl h.row;have s:=UI i;obtain⟨l,m⟩:=nM j (by omega);subst l;subst m;obtain⟨f2,r,n,B,o⟩:=k
 injection n with e4 e5
 subst e4;subst e5;have c:=h.ends;rw[Xh,QZ,Lm]at c;constructor
 ·rcases WI A1 with rfl | ⟨C,z,rfl⟩
  ·exact⟨QE,_,c⟩
  ·obtain ⟨D,E,t,F,p⟩:=Rl i;obtain⟨d,q,_,g,_⟩:=p;rw[Eg];exact⟨d,_,g⟩
 ·rcases A2 with _ | ⟨b,A2⟩
  ·exact⟨QE,_,c⟩
  ·obtain ⟨d,q,_,g,_⟩:=o;exact⟨d,_,g⟩
def sU {w:World}:∀ {p:Nat} {A:List Nat} {F:List Pf} {q:Nat},EM w p A F q->∀ x∈A,∃ t cs,Has w x t cs
 | _,[],_,_,_,_,b=>by cases b
 | p,a :: A,_,q,h,x,b=>by
   obtain⟨f,r,rfl,c,d⟩:=h
   rcases BI.1 b with rfl | b
   ·exact⟨_,_,c⟩
   ·exact sU d x b
def Ring.cells(h:Ring w e A F):∀ x∈e :: A,∃ t cs,Has w x t cs:=λx a=>by
 rcases BI.1 a with rfl | a
 ·exact⟨_,_,h.ends⟩
 ·exact sU h.row x a
def Ring.off(h:Ring w e A F){R:Value->Option (DataW Unit×List MemPlace)}{b c:Nat}{g:Int->Option Nat}(a:GM R w b g c):b∉e :: A:=λd=>by
 obtain⟨t,cs,f⟩:=h.cells b d;exact a.Gx f
def Ring.grown(h:Ring w e A F){r:Option Nat}(b:w.grownBy w' r)(c:∀ x∈e :: A,some x≠r):Ring w' e A F:=h.kept λx a=>b.block x (h.lt x a) (c x a)
def Ring.below(h:Ring w e A F)(a:Below w.heap.size w w'):Ring w' e A F:=h.kept λx b=>a.block x (h.lt x b)
end
def Ws(A:List Nat)(e:Nat):A.getLastD e∈e :: A:=by
 rcases WI A with rfl |⟨B,z,rfl⟩
 ·exact AZ ..
 ·rw[Eg];exact BF _ (BC _ (BH.2 rfl))
def sD(A:List Nat)(e:Nat):A.headD e∈e :: A:=by
 rcases A with _ |⟨b,A⟩
 ·exact AZ ..
 ·exact BF _ (AZ ..)
def CM1(w:World)(p a e h:Nat)(cs:Array Value)(A A':List Nat)(b:List Pf)(f:Pf)(g:Int->Option Nat)(c:Nat)(v:Value)(d:Ending)(w':World):Prop :=
 d = .returned v/\Ring w' e A' b/\GM Nj w' h (λy=>if y=f.n then none else g y) (if(g f.n).isSome then c-1 else c)/\Has w' p 106 cs/\(∃ x y,Has w' a 166 (JO f x y))/\Turn (some h :: (e :: A).map some) (some h :: (e :: A).map some) w w'
def Je{l:List Nat}{k:Nat}:some k∈l.map some↔k∈l:=by simp
def Eu(b:List (Option Nat))(x i:Nat)(v:Value)(w:World)(a:some x∈b):Turn b b w (w.setCell ⟨x,i,none⟩ v) :=
 ⟨rfl,rfl,rfl,by simp[World.setCell],λk _ c=>CX _ _ _ _ (λe=>c (by rw[show k=x from e];exact a)),λ_ h=>.inl h⟩
def Xx{b:List (Option Nat)}{x:Nat}{w w':World}(a:w.grownBy w' (some x))(c:some x∈b):Turn b b w w' :=
 ⟨a.os,a.tape,a.output,a.size,λk d f=>a.block k d (λe=>f (by rw[e];exact c)),λ_ h=>.inl h⟩
def AR1 (p a e h:Nat) (cs:Array Value) (A1 A2:List Nat) (F1 F2:List Pf) (f:Pf) (g:Int->Option Nat) (c:Nat) (w:World) (z:Has w p 106 cs) (M:cs[3]? = some (.map (some h)))
 (k:Ring w e (A1++a :: A2) (F1++f :: F2)) (q:A1.length=F1.length) (r:GM Nj w h g c) (t:p∉e :: (A1++a :: A2)) (R:f.n<=4294967296) :
 Calls Tryz.prog 164 #[.pointer (some ⟨p,0,none⟩),.pointer (some ⟨a,0,none⟩)] w (CM1 w p a e h cs (A1++a :: A2) (A1++A2) (F1++F2) f g c (.tuple #[])):=by
 have d:=k.at q;obtain⟨⟨u1,v1,i⟩,u2,v2,j⟩:=k.RL1 q;have m:=k.leave q
 have A:A1.getLastD e∈e :: (A1++a :: A2):=by
  have:=Ws A1 e;simp only[BI,BO]at this ⊢
  rcases this with h | h
  ·exact .inl h
  ·exact .inr (.inl h)
 have m2:A2.headD e∈e :: (A1++a :: A2):=by
  have:=sD A2 e;simp only[BI,BO]at this ⊢
  rcases this with h | h
  ·exact .inl h
  ·exact .inr (.inr (.inr h))
 have nd:=k.nodup;rw[FP,CZ,FP]at nd;obtain⟨N,S,n2,O⟩:=nd;have u:¬ e=a:=λx=>N (x ▸ BC _ (AZ ..))
 have B:¬ a=A1.getLastD e:=λx=>by
  have:=Ws A1 e;rw[<- x]at this
  rcases BI.1 this with h | h
  ·exact u h.symm
  ·exact O a h a (AZ ..) rfl
 have C:¬ a=A2.headD e:=λx=>by
  have:=sD A2 e;rw[<- x]at this
  rcases BI.1 this with h | h
  ·exact u h.symm
  ·exact n2.1 h
 have D:¬ p=A1.getLastD e:=λx=>t (x ▸ A);have E:¬ p=A2.headD e:=λx=>t (x ▸ m2);have v:¬ h=A1.getLastD e:=λx=>r.Gx (x ▸ i);have y:¬ h=A2.headD e:=λx=>r.Gx (x ▸ j);have F:=Ac ((Eu (some h :: (e :: (A1++a :: A2)).map some) (A1.getLastD e) 5 (Cc (A2.headD e)) w (BF _ (Je.2 A))).trans (Eu _ (A2.headD e) 4 (Cc (A1.getLastD e)) _ (BF _ (Je.2 m2))));obtain⟨pr,I⟩:∃ pr,A1.getLastD e=pr:=⟨_,rfl⟩;obtain⟨b,J⟩:∃ b,A2.headD e=b:=⟨_,rfl⟩;rw[I]at d i m B D v F;rw[J]at d j m C E y F;have T:=Ac m
 have G:=Ac ((d.far (p:=⟨pr,5,none⟩) B (Cc b)).far (p:=⟨b,4,none⟩) C (Cc pr));have H:=Ac ((z.far (p:=⟨pr,5,none⟩) D (Cc b)).far (p:=⟨b,4,none⟩) E (Cc pr));have s:=Ac ((r.far (p:=⟨pr,5,none⟩) v (Cc b)).far (p:=⟨b,4,none⟩) y (Cc pr));have U:w.cell? ⟨p,3,none⟩=some (.map (some h)):=(z.cell 3).trans M;have V:w.cell? ⟨a,0,none⟩=some (.int .i64 f.n):=d.cell 0;have X:w.cell? ⟨a,4,none⟩=some (Cc pr):=d.cell 4;have Y:w.cell? ⟨a,5,none⟩=some (Cc b):=d.cell 5;have Z:w.cell? ⟨pr,5,none⟩=some (Cc a):=i.cell 5;have s4:w.cell? ⟨b,4,none⟩=some (Cc a):=j.cell 4;have f5:w.frozen? ⟨pr,5,none⟩=false:=i.frozen 5;have f4:w.frozen? ⟨b,4,none⟩=false:=j.frozen 4;have WN:=Ac (KU (x:=(f.n:Int)) (by omega) (by omega))
 clear d i j m A m2 N S n2 O u B C D E v y I J k q r t z R;go_enter Tryz.func164,Tryz.ntmps164
 go_wp2_with fail
 go_region
 go_wp2_with fail
 generalize (w.setCell ⟨pr,5,none⟩ (Cc b)).setCell ⟨b,4,none⟩ (Cc pr)=W at *;have y3:W.cell? ⟨p,3,none⟩=some (.map (some h)):=(H.cell 3).trans M;have b0:W.cell? ⟨a,0,none⟩=some (.int .i64 f.n):=G.cell 0;obtain⟨w3,aa,K,L⟩:=(s.block (w':=W.drew.drew) rfl).del XO (f.n:Int) WN 0;have Q:=Ac K;have o:=Ac L;clear K L U V X Y Z s4 f5 f4
 go_region
 go_end0
 have P:Ring W.drew.drew e (A1++A2) (F1++F2):=T.kept λx _=>rfl;have nh:h∉e :: (A1++A2):=P.off (s.block (w':=W.drew.drew) rfl);refine⟨rfl,P.grown o (λx hx l=>nh (CV l ▸ hx)),Q, ?_,⟨pr,b, ?_⟩, ?_⟩
 ·exact(show Has W.drew.drew p _ _ from H).grown o (λl=>s.Gx (CV l ▸ H.out))
 ·exact(show Has W.drew.drew a _ _ from G).grown o (λl=>s.Gx (CV l ▸ G.out))
 ·exact(F.trans (Turn.below _ (((AU _ _).drew).drew))).trans (Xx o (AZ ..))
def GG1(w:World)(p a e h:Nat)(cs:Array Value)(A:List Nat)(F:List Pf)(f:Pf)(g:Int->Option Nat)(c:Nat)(b:Ending)(w':World):Prop :=
 b = .returned (Cc a)/\Ring w' e (A++[a]) (F++[f])/\GM Nj w' h (λy=>if y=f.n then some a else g y) (if(g f.n).isSome then c else c+1)/\Has w' p 106 cs/\Turn (some a :: some h :: (e :: A).map some) (some a :: some h :: (e :: A).map some) w w'
def Ring.tail{w:World}{e:Nat}{A:List Nat}{F:List Pf}(h:Ring w e A F):∃ u v,Has w (A.getLastD e) 166 (JO u v e):=by
 rcases WI A with rfl |⟨B,z,rfl⟩
 ·exact⟨QE,_,h.ends⟩
 ·obtain ⟨f,g,d,i,a⟩:=Rl h.row;obtain⟨b,j,_,c,_⟩:=a;rw[Eg];exact⟨b,_,c⟩
def FY1 (p a e h:Nat) (cs:Array Value) (A:List Nat) (F:List Pf) (f:Pf) (P Q:Value) (g:Int->Option Nat) (c:Nat) (w:World) (I:Has w p 106 cs) (X:cs[2]? = some (Cc e)) (Y:cs[3]? = some (.map (some h)))
 (C:Ring w e A F) (i:Has w a 166 #[.int .i64 f.n,.string f.s,.int .i64 f.pins,.bool f.dirty,P,Q]) (z:a∉e :: A) (t:GM Nj w h g c) (E:p∉e :: A) (G:¬ p=a) (Z:c<=1000000) (hn:f.n<=4294967296) :
 Calls Tryz.prog 126 #[.pointer (some ⟨p,0,none⟩),.pointer (some ⟨a,0,none⟩)] w (GG1 w p a e h cs A F f g c):=by
 have d:¬ a=e:=λx=>z (x ▸ AZ ..);have o:¬ p=e:=λx=>E (x ▸ AZ ..);have u:=Ws A e;obtain⟨u1,v1,B⟩:=C.tail;have D:Ring ((((w.setCell ⟨a,4,none⟩ (Cc (A.getLastD e))).setCell ⟨a,5,none⟩ (Cc e)).setCell ⟨A.getLastD e,5,none⟩ (Cc a)).setCell ⟨e,4,none⟩ (Cc a)) e (A++[a]) (F++[f]):=C.QL1 i z;obtain⟨pr,M⟩:∃ pr,A.getLastD e=pr:=⟨_,rfl⟩;have l:=C.ends;rw[M]at D B u l;have b:¬ a=pr:=λx=>z (x ▸ u);have m:¬ p=pr:=λx=>E (x ▸ u);have j:¬ h=a:=λx=>t.Gx (x ▸ i);have q:¬ h=e:=λx=>t.Gx (x ▸ l);have r:¬ h=pr:=λx=>t.Gx (x ▸ B)
 have R:=(i.set 4 (Cc pr)).set 5 (Cc e);have P1:=Ac ((I.far (p:=⟨a,4,none⟩) G (Cc pr)).far (p:=⟨a,5,none⟩) G (Cc e));have M1:=Ac ((t.far (p:=⟨a,4,none⟩) j (Cc pr)).far (p:=⟨a,5,none⟩) j (Cc e));have S:=(B.far (p:=⟨a,4,none⟩) (OJ b) (Cc pr)).far (p:=⟨a,5,none⟩) (OJ b) (Cc e);have T:=(l.far (p:=⟨a,4,none⟩) (OJ d) (Cc pr)).far (p:=⟨a,5,none⟩) (OJ d) (Cc e);have T1:=Ac ((Eu (some a :: some h :: (e :: A).map some) a 4 (Cc pr) w (AZ ..)).trans (Eu _ a 5 (Cc e) _ (AZ ..)));have x2:w.cell? ⟨p,2,none⟩=some (Cc e):=(I.cell 2).trans X;have e4:w.cell? ⟨e,4,none⟩=some (Cc pr):=l.cell 4;have a4:w.cell? ⟨a,4,none⟩=some P:=i.cell 4;have a5:w.cell? ⟨a,5,none⟩=some Q:=i.cell 5;have af:=i.frozen;have HL:=Ac D
 have WN:=Ac (KU (x:=(f.n:Int)) (by omega) (by omega));have NE:=Ac (AV b (AV d (AV m (AV o (AV j (AV q r))))));have MP:=Ac u;have A1:=Ac R;have U:=Ac S;have E1:=Ac T;clear i B D l C z t E I G b m j q r d o u M hn R S T;go_enter Tryz.func126,Tryz.ntmps126
 go_wp2_with fail
 go_region
 go_wp2_with fail
 clear x2 e4 a4 a5 af;generalize (w.setCell ⟨a,4,none⟩ (Cc pr)).setCell ⟨a,5,none⟩ (Cc e)=y at *;have b4:y.cell? ⟨a,4,none⟩=some (Cc pr):=A1.cell 4;have b5:y.cell? ⟨a,5,none⟩=some (Cc e):=A1.cell 5;have c5:y.cell? ⟨pr,5,none⟩=some (Cc e):=U.cell 5;have c4:y.cell? ⟨e,4,none⟩=some (Cc pr):=E1.cell 4;have cf:=U.frozen;have df:=E1.frozen
 go_region
 go_wp2_with fail
 obtain⟨b,d,m,o,j,q,r⟩:=NE;have A2:=Ac ((A1.far (p:=⟨pr,5,none⟩) b (Cc a)).far (p:=⟨e,4,none⟩) d (Cc a));have J:=Ac ((P1.far (p:=⟨pr,5,none⟩) m (Cc a)).far (p:=⟨e,4,none⟩) o (Cc a));have K:=Ac ((M1.far (p:=⟨pr,5,none⟩) r (Cc a)).far (p:=⟨e,4,none⟩) q (Cc a));have T2:=Ac ((T1.trans (Eu _ pr 5 (Cc a) _ (BF _ (BF _ (Je.2 MP))))).trans (Eu _ e 4 (Cc a) _ (BF _ (BF _ (Je.2 (AZ ..))))));clear b4 b5 c5 c4 cf df b d m o j q r;generalize (y.setCell ⟨pr,5,none⟩ (Cc a)).setCell ⟨e,4,none⟩ (Cc a)=k at *;have y3:k.cell? ⟨p,3,none⟩=some (.map (some h)):=(J.cell 3).trans Y;have b0:k.cell? ⟨a,0,none⟩=some (.int .i64 f.n):=A2.cell 0
 obtain⟨w3,aa,N,O⟩:=(K.block (w':=k.drew.drew.drew) rfl).put XO (BN Z (by decide)) (f.n:Int) WN (val:=Cc a) (v:=a) (ps:=[]) rfl;have W:=Ac N;have H:=Ac O;clear N O
 go_region
 go_wp2_with fail
 go_ret;have V:Ring k.drew.drew.drew e (A++[a]) (F++[f]):=HL.kept λx _=>rfl;have nh:h∉e :: (A++[a]):=V.off (K.block (w':=k.drew.drew.drew) rfl);refine⟨rfl,V.grown H (λx hx L=>nh (CV L ▸ hx)),W, ?_, ?_⟩
 ·exact(show Has k.drew.drew.drew p _ _ from J).grown H (λL=>K.Gx (CV L ▸ J.out))
 ·exact(T2.trans (Turn.below _ ((((AU _ _).drew).drew).drew))).trans (Xx H (BF _ (AZ ..)))
open Go.Maps
def Ec (w:World) {ops:Array Oper} {rest:List Oper} {o:Oper} {a:Act} {Q:Exit->Act->World->Prop}
 (g:o.guard=none) (m x:Operand) (d:o.op=Op.lookup 104 m x false) (b n:Nat) (f:Int->Nat)
 (i:a.eval m = .map (some b)) (h:MP w b n f) (k:Int) (j:a.eval x = .int .i64 k) (l:(Lit.int .i64 k).wf=true)
 (p:wpList Tryz.prog ops Q rest (a.put o.dst (.int .i64 (f k))) w):wpList Tryz.prog ops Q (o :: rest) a w:=by
 obtain⟨D,q,r⟩:=h;refine wpList_lookup_own_int w g m x _ d 3 3 .i64 Ol PU IB (NP1 w) b n D i q _ _ j (keyOf_int_mk IB l) λc e u=>?_;have s:=(r k).symm.trans e
 have t:((f k:Nat):Int)=c:=by cases s;rfl
 rw[<- t];exact p
def qX (b:List (Option Nat)) (o g f m2:Nat) (R:Rw) (n:Int) (w:World) (h:LR w b o g f m2 R) (B:R.D.ok) (K:R.f1 n<=1000000) :
 Calls Tryz.prog 123 #[.pointer (some ⟨g,0,none⟩),.int .i64 n] w λe w'=>e = .returned (.tuple #[.string (R.Fa n),.int .i64 (R.Dy n)])/\w=w':=by
 have v:=Ac h;have P:=h.cell0;have Q:w.cell? ⟨g,3,none⟩=some (.map (some f)):=h.has.cell 3;have p:=Ac h.map1;have q:=Ac B;clear h B;by_cases c:0<=n/\n<=2147483647
 ·have r:=Ac (KU (x:=n) (by omega) (by omega))
  have G:decide (n<0)=false:=by simp;omega
  have L:decide ((2147483648:Int)<=n)=false:=by simp;omega
  by_cases d:R.f1 n≠0
  ·have E:=Ac (show R.Fa n=R.D.Fa 1 (R.OY n) 1024/\R.Dy n=R.D.Dy 1 (R.OY n) 1024 from ⟨(AC c).trans (AC d),(AC c).trans (AC d)⟩);rw[E.1,E.2];unfold Rw.OY;obtain⟨k,y⟩:∃ k,R.f1 n=k:=⟨_,rfl⟩;have l:=Ac y;rw[y]at K d ⊢;clear E y;have m:=Ac (jZ o R.D b 1 (64+((k:Int)-1)*1028+4) 1024 w v.disk q);obtain⟨S,i⟩:∃ S,R.D.Fa 1 (64+((k:Int)-1)*1028+4) 1024=S:=⟨_,rfl⟩;obtain⟨E,j⟩:∃ S,R.D.Dy 1 (64+((k:Int)-1)*1028+4) 1024=S:=⟨_,rfl⟩;rw[i,j]at m ⊢
   have T:(0:Int)<(k:Int):=by omega
   clear i j c d;go_enter XV,XR
   go_wp2_with (first
    |(at_lookup;refine Ec _ rfl _ _ rfl f R.nf R.f1 rfl p n rfl r ?_;rw[l.out])
    |(go_at_call 95;refine(m).mono ?_;rintro e w1 ⟨rfl,rfl⟩))
   go_ret2;exact⟨rfl,rfl⟩
  ·have C:R.f1 n=0:=FC d;have l:=Ac C;have s:=Ac (jE o R.D b 0 w v.disk q)
   obtain⟨N,t,I⟩:∃ N:Nat,R.D.Zo 0=N/\N<=67108864:=by
    unfold Dk.Zo;split
    ·exact⟨_,rfl,q.seen 0⟩
    ·exact⟨0,rfl,BR _⟩
   have wr2:wrap64 ((N:Int) / 1024)=(N:Int) / 1024:=YJ _ (by omega);have m:=Ac (jZ o R.D b 0 (n*1024) 1024 w v.disk q);have z:R.Fa n=if R.D.Vl 0≠0 then⟨#[]⟩else if R.D.Zo 0 / 1024<=n then⟨#[]⟩else R.D.Fa 0 (n*1024) 1024:=(AC c).trans (AO d);have A:R.Dy n=if R.D.Vl 0≠0 then R.D.Vl 0 else if R.D.Zo 0 / 1024<=n then 7 else R.D.Dy 0 (n*1024) 1024:=(AC c).trans (AO d);obtain⟨S,i⟩:∃ S,R.D.Fa 0 (n*1024) 1024=S:=⟨_,rfl⟩;obtain⟨E,j⟩:∃ S,R.D.Dy 0 (n*1024) 1024=S:=⟨_,rfl⟩;obtain⟨F,a⟩:∃ S,R.D.Vl 0=S:=⟨_,rfl⟩;rw[i,j]at m;rw[t,a]at s;rw[t,a,i]at z;rw[t,a,j]at A;rw[z,A];have M:=Ac c;clear i j c d C t a z A I;by_cases a:F≠0
   ·rw [AC a,AC a];go_enter XV,XR
    go_wp2_with (first
     |(at_lookup;refine Ec _ rfl _ _ rfl f R.nf R.f1 rfl p n rfl r ?_;rw[l.out])
     |(go_at_call 94;refine(s).mono ?_;rintro e w1 ⟨rfl,rfl⟩))
    go_ret2;exact⟨rfl,rfl⟩
   ·rw [AO a,AO a];have J:F=0:=FC a;subst J;by_cases u:(N:Int) / 1024<=n
    ·rw [AC u,AC u];clear a;go_enter XV,XR
     go_wp2_with (first
      |(at_lookup;refine Ec _ rfl _ _ rfl f R.nf R.f1 rfl p n rfl r ?_;rw[l.out])
      |(go_at_call 94;refine(s).mono ?_;rintro e w1 ⟨rfl,rfl⟩))
     go_ret2;exact⟨rfl,rfl⟩
    ·rw [AO u,AO u];have O:wrap64 (n*1024)=n*1024:=YJ _ (by have:=M.out;omega);clear a;go_enter XV,XR
     go_wp2_with (first
      |(at_lookup;refine Ec _ rfl _ _ rfl f R.nf R.f1 rfl p n rfl r ?_;rw[l.out])
      |(go_at_call 94;refine(s).mono ?_;rintro e w1 ⟨rfl,rfl⟩) |(go_at_call 95;refine(m).mono ?_;rintro e w1 ⟨rfl,rfl⟩))
     go_ret2;exact⟨rfl,rfl⟩
 ·have E:=Ac (show R.Fa n=⟨#[]⟩/\R.Dy n=1 from ⟨AO c,AO c⟩);rw[E.1,E.2];by_cases H:0<=n
  ·have G:decide (n<0)=false:=by simp;omega
   have L:decide ((2147483648:Int)<=n)=true:=by simp;omega
   clear E c H;go_enter XV,XR
   go_wp2_with fail
   go_ret2;exact⟨rfl,rfl⟩
  ·have G:decide (n<0)=true:=by simp;omega
   clear E c H;go_enter XV,XR
   go_wp2_with fail
   go_ret2;exact⟨rfl,rfl⟩
def Dk.calm(D:Dk):Prop:=D.down=false/\D.fails = -1
section
variable {D:Dk}
def Dk.calm.go(h:D.calm):¬ D.stops:=by
 unfold Dk.stops;rw[h.1,h.2];decide
def Dk.calm.turn(h:D.calm):D.turn.calm:=by
 unfold Dk.turn;rw[AO h.go];refine⟨h.1, ?_⟩;show(if 0<D.fails then D.fails-1 else D.fails) = -1;rw[h.2];decide
def Dk.calm.Dw(h:D.calm):D.Dw=0:=AO h.go
def Dk.calm.change(h:D.calm)(c:Ch):(D.change c).calm:=by
 unfold Dk.change;rw[AO h.go];exact⟨h.turn.1,h.turn.2⟩
def Dk.calm.sync(h:D.calm)(f:Int):(D.sync f).calm:=by
 unfold Dk.sync
 split
 ·rw[AO h.go];exact⟨h.turn.1,h.turn.2⟩
 ·exact h
def Dk.calm.cut(h:D.calm)(f a:Int):(D.Fp f a).calm:=by
 unfold Dk.Fp
 split
 ·exact h.change _
 ·exact h
def Dk.calm.write(h:D.calm)(f a:Int)(s:ByteArray):(D.write f a s).calm:=by
 unfold Dk.write
 split
 ·exact h.change _
 ·exact h
def Fit.cut{k:Nat}(h:Fit D (k+1))(f a:Int):Fit (D.Fp f a) k:=by
 unfold Dk.Fp
 split
 ·rename_i b;obtain⟨c,d,e,g,i,j⟩:=b;exact xX h ⟨by show f.toNat<2;omega,by show a.toNat<=_;omega,by show a.toNat+0<=_;omega,λ_=>rfl⟩
 ·exact h.less (by omega)
def Fit.sync{k:Nat}(h:Fit D (k+1))(f:Int):Fit (D.sync f) k:=by
 refine⟨Dk.Qs h.ok f, ?_, ?_⟩
 ·have:=h.count;have:=yF D
  unfold Dk.sync;split
  ·split
   ·omega
   ·show D.turn.count+k<=_;omega
  ·omega
 ·have:=h.waits
  have a:D.turn.waits=D.waits:=by unfold Dk.turn;split <;> rfl
  unfold Dk.sync;split
  ·split
   ·rw[a];omega
   ·show (D.waits.filter _).length+k<=_;have:=dB (λc:Ch=>decide (c.file≠f.toNat)) D.waits;omega
  ·omega
end
def WL(w0:World)(b:List (Option Nat))(c:Nat)(xs:List (Nat×TypeId×Array Value))(D:Dk)(u:World):Prop :=
 ∃ a,DP u a c D/\ML u xs/\Off xs a/\Turn b a w0 u
def ZA0 (fs:List (FuncId×Array Value)) (f n:Nat) (w0:World) (c:List (Option Nat)) (a:Nat) (xs:List (Nat×TypeId×Array Value)) (Ds:Nat->Dk) (t:TypeId) (w:World)
 (C:fs.length=n) (q:n<=4) (s:(f,t,(fs.map (λx=>Value.func (.func x.1) #[] x.2)).toArray)∈xs) (D:WL w0 c a xs (Ds 0) w)
 (p:∀(i:Nat) k cs,fs[i]? = some (k,cs)->∀ u,(callFunc k cs).run Tryz.prog u = .ok (.enter k cs) u)
 (o:∀(i:Nat) k cs,fs[i]? = some (k,cs)->∀ u b,DP u b a (Ds i)->ML u xs->Off xs b->Calls Tryz.prog k cs u (Tu u b a (Ds (i+1)) (.int .i64 0))) :
 Calls Tryz.prog 116 #[.slice (some ⟨f,0,none⟩) n n] w λe w'=>e = .returned (.int .i64 0)/\WL w0 c a xs (Ds n) w':=by
 refine(rP fs f n w (λi u=>i<=n/\WL w0 c a xs (Ds i) u) (λr u=>r=0/\WL w0 c a xs (Ds n) u) C q ?_ p ?_ ?_ ⟨BR _,D⟩).mono ?_
 ·rintro i u ⟨_,b,_,d,_,_⟩ j k cs E;have:=(d _ s).cell j;simp only at this;rw[this];simp[E]
 ·rintro i k cs l u ⟨H,b,F,d,m,G⟩
  have v:i<n:=by
   have:=(C9.1 l).1;omega
  refine(o i k cs l u b F d m).mono ?_;rintro e w' ⟨rfl,y,z,h⟩;obtain⟨A,B⟩:=d.turn h m;exact⟨0,rfl,.inl ⟨rfl,v,y,z,A,B,G.trans h⟩⟩
 ·rintro u ⟨_,g⟩;exact⟨rfl,g⟩
 ·rintro e w' ⟨r,rfl,rfl,g⟩;exact⟨rfl,g⟩
def YT (D:Dk) (p:Nat):Nat->Dk
 | 0=>D
 | 1=>D.Fp 1 0
 | 2=>(D.Fp 1 0).sync 1
 | 3=>((D.Fp 1 0).sync 1).write 1 0 (bsOf (Jb++slotL 1 0 p))
 | _=>(((D.Fp 1 0).sync 1).write 1 0 (bsOf (Jb++slotL 1 0 p))).sync 1
def ZU0 (b:List (Option Nat)) (a g:Nat) (D:Dk) (i:Nat) (w:World) (h:DP w b a D) (s:w.cell? ⟨g,0,none⟩=some (.pointer (some ⟨a,0,none⟩))) (r:g<w.heap.size) (j:Has w i 97 #[.pointer (some ⟨g,0,none⟩)]) (c:Fit D 1) (n:D.calm) :
 Calls Tryz.prog 184 #[.pointer (some ⟨i,0,none⟩)] w (Tu w b a (D.Fp 1 0) (.int .i64 0)):=by
 have k:=Ac (λl w1 (o:DP w1 l a D)=>oZ a D l 1 0 w1 o c.ok (by have:=c.count;omega) (by have:=c.waits;omega));have m:D.IM 1 0=0:=(show D.IM 1 0=D.Dw from AC (by decide)).trans n.Dw;obtain⟨t,d⟩:∃ x,D.Fp 1 0=x:=⟨_,rfl⟩;rw[m,d]at k;rw[d];have p:=Ac h;have u:=j.cell 0;clear m d h j c;go_enter Tryz.func184,Tryz.ntmps184
 go_wp2_with (go_at_call 175;(with_reducible refine(k.out _ _ p.out).mono ?_);rintro e v ⟨rfl,f⟩;have q:=Ac f;clear f)
 go_ret;exact⟨rfl,q⟩
def UU0 (b:List (Option Nat)) (a g:Nat) (D:Dk) (i:Nat) (w:World) (h:DP w b a D) (s:w.cell? ⟨g,0,none⟩=some (.pointer (some ⟨a,0,none⟩))) (r:g<w.heap.size) (j:Has w i 97 #[.pointer (some ⟨g,0,none⟩)]) (c:Fit D 1) (n:D.calm) :
 Calls Tryz.prog 185 #[.pointer (some ⟨i,0,none⟩)] w (Tu w b a (D.sync 1) (.int .i64 0)):=by
 have k:=Ac (λl w1 (o:DP w1 l a D)=>Wi a D l 1 w1 o c.ok (by have:=c.count;omega) (by have:=c.waits;omega));have m:D.Pq 1=0:=(show D.Pq 1=D.Dw from AC (by decide)).trans n.Dw;obtain⟨t,d⟩:∃ x,D.sync 1=x:=⟨_,rfl⟩;rw[m,d]at k;rw[d];have p:=Ac h;have u:=j.cell 0;clear m d h j c;go_enter Tryz.func185,Tryz.ntmps185
 go_wp2_with (go_at_call 119;(with_reducible refine(k.out _ _ p.out).mono ?_);rintro e v ⟨rfl,f⟩;have q:=Ac f;clear f)
 go_ret;exact⟨rfl,q⟩
def SF0 (b:List (Option Nat)) (a g:Nat) (D:Dk) (i:Nat) (w:World) (h:DP w b a D) (s:w.cell? ⟨g,0,none⟩=some (.pointer (some ⟨a,0,none⟩))) (r:g<w.heap.size) (j:Has w i 97 #[.pointer (some ⟨g,0,none⟩)]) (c:Fit D 1) (n:D.calm) :
 Calls Tryz.prog 188 #[.pointer (some ⟨i,0,none⟩)] w (Tu w b a (D.sync 1) (.int .i64 0)):=by
 have k:=Ac (λl w1 (o:DP w1 l a D)=>Wi a D l 1 w1 o c.ok (by have:=c.count;omega) (by have:=c.waits;omega));have m:D.Pq 1=0:=(show D.Pq 1=D.Dw from AC (by decide)).trans n.Dw;obtain⟨t,d⟩:∃ x,D.sync 1=x:=⟨_,rfl⟩;rw[m,d]at k;rw[d];have p:=Ac h;have u:=j.cell 0;clear m d h j c;go_enter Tryz.func188,Tryz.ntmps188
 go_wp2_with (go_at_call 119;(with_reducible refine(k.out _ _ p.out).mono ?_);rintro e v ⟨rfl,f⟩;have q:=Ac f;clear f)
 go_ret;exact⟨rfl,q⟩
def YR0 (b:List (Option Nat)) (c g p:Nat) (D:Dk) (s:Nat) (cs:Array Value) (w:World) (h:DP w b c D) (d:Has w g 181 cs) (k:cs[0]? = some (.pointer (some ⟨c,0,none⟩))) (j:cs[5]? = some (.int .i64 p)) (l:Has w s 97 #[.pointer (some ⟨g,0,none⟩)]) (f:Fit D 1) (B:D.calm) (C:p<=4611686018427387904) :
 Calls Tryz.prog 186 #[.pointer (some ⟨s,0,none⟩)] w (Tu w b c (D.write 1 0 (bsOf (Jb++slotL 1 0 p))) (.int .i64 0)):=by
 have m:=Ac (Xl 1 0 p (by omega) (by omega) C);rw[show((1:Nat):Int)=1 from rfl,show((0:Nat):Int)=0 from rfl]at m;have i:=Ac (λt w1 (E:DP w1 t c D)=>Xy c D t 1 0 (bsOf (Jb++slotL 1 0 p)) w1 E f.ok (by have:=f.count;omega) (by have:=f.waits;omega) (by rw[Df,A8,Eo];decide));have u:D.Ji 1 0 (bsOf (Jb++slotL 1 0 p))=0:=(show _=D.Dw from AC (by rw[Df,A8,Eo];decide)).trans B.Dw;rw[u,<- Ve,show bsOf Jb=⟨#[114,101,108,115,116,111,114,101,32,108,111,103,32,48,48,49]⟩from rfl]at i;rw[<- Ve,show bsOf Jb=⟨#[114,101,108,115,116,111,114,101,32,108,111,103,32,48,48,49]⟩from rfl]
 obtain⟨S,n⟩:∃ S,bsOf (slotL 1 0 p)=S:=⟨_,rfl⟩
 have N:S.size=24:=by rw[<- n,Df,Eo]
 rw[n]at m i ⊢;obtain⟨O,v⟩:∃ x,D.write 1 0 (⟨#[114,101,108,115,116,111,114,101,32,108,111,103,32,48,48,49]⟩++S)=x:=⟨_,rfl⟩;rw[v]at i ⊢;have F:=Ac (h.below (AU _ _).drew);have y:=Ac (d.Ai (AU _ _).drew);have G:=Ac (l.Ai (AU _ _).drew);have z:=Ac ((AU w.heap.size w).drew);have P:=l.cell 0;have Q:=(d.cell 0).trans k;have R:=(d.cell 5).trans j;have T:=d.lt;have H:=Ac k;clear n u v h l f k j d;go_enter Tryz.func186,Tryz.ntmps186;generalize o:(⟨#[114,101,108,115,116,111,114,101,32,108,111,103,32,48,48,49]⟩:ByteArray)=I at *
 have V:I.size=16:=by rw[<- o];rfl
 clear o
 go_wp2_with fail
 go_region_with
  (first |(go_at_call 187;(with_reducible refine(m.out _).mono ?_);rintro e w1 ⟨rfl,a⟩;have J:=Ac (F.below a);have A:=Ac (Ap z a z.size);have W:=(G.Ai a).cell 0;have X:=((y.Ai a).cell 0).trans H;have Y:=(y.Ai a).lt) |(go_at_call 172;(with_reducible refine(i.out _ _ J.out).mono ?_);rintro e Z ⟨rfl,K,q,r⟩;have L:=Ac q;have M:=Ac r;clear q r))
 all_goals
  go_wp2_with fail
  go_ret;exact⟨rfl,K,L,(Turn.below b A).trans M⟩
def PE0(cs:Array Value)(u:World):(callFunc 184 cs).run Tryz.prog u = .ok (.enter 184 cs) u:=by kernel_rfl
def RM0(cs:Array Value)(u:World):(callFunc 185 cs).run Tryz.prog u = .ok (.enter 185 cs) u:=by kernel_rfl
def QZ0(cs:Array Value)(u:World):(callFunc 186 cs).run Tryz.prog u = .ok (.enter 186 cs) u:=by kernel_rfl
def OO0(cs:Array Value)(u:World):(callFunc 188 cs).run Tryz.prog u = .ok (.enter 188 cs) u:=by kernel_rfl
def ZI(N:Nat):List (FuncId×Array Value):=[(184,#[.pointer (some ⟨N,0,none⟩)]),(185,#[.pointer (some ⟨N,0,none⟩)]),(186,#[.pointer (some ⟨N,0,none⟩)]),(188,#[.pointer (some ⟨N,0,none⟩)])]
def Vk(a N g:Nat)(cs:Array Value):List (Nat×TypeId×Array Value) :=
 [(a,50,((ZI N).map (λx=>Value.func (.func x.1) #[] x.2)).toArray),(N,97,#[.pointer (some ⟨g,0,none⟩)]),(g,181,cs)]
def KA0 (b:List (Option Nat)) (d g p N o:Nat) (D:Dk) (cs:Array Value) (w:World) (z:o=w.heap.size) (h:DP w b d D) (E:Has w g 181 cs) (j:cs[0]? = some (.pointer (some ⟨d,0,none⟩))) (A:cs[5]? = some (.int .i64 p)) (F:Has w N 97 #[.pointer (some ⟨g,0,none⟩)])
 (B:some g∉b) (C:some N∉b) (r:Fit D 4) (s:D.calm) (G:p<=4611686018427387904) :
 Calls Tryz.prog 116 #[.slice (some ⟨o,0,none⟩) 4 4] (w.alloc (.cells ((ZI N).map (λx=>Value.func (.func x.1) #[] x.2)).toArray 50)).drew λe w'=>e = .returned (.int .i64 0)/\WL w b d (Vk o N g cs) (YT D p 4) w':=by
 subst z
 have t:=LJ <|(AU w.heap.size w).alloc (AY _) (.cells ((ZI N).map (λx=>Value.func (.func x.1) #[] x.2)).toArray 50)
 refine ZA0 (ZI N) w.heap.size 4 w b d (Vk w.heap.size N g cs) (YT D p) 50 _ rfl (by omega) (by simp[Vk]) ⟨b,h.below t, ?_, ?_,Turn.below _ t⟩ ?_ ?_
 ·intro x c;simp only[Vk,BI,PY,OC]at c
  rcases c with rfl | rfl | rfl
  ·exact Has.new _ _ _
  ·exact F.alloc _
  ·exact E.alloc _
 ·intro x c q;simp only[Vk,BI,PY,OC]at c
  rcases c with rfl | rfl | rfl
  ·have:=h.lt q;simp only at this;omega
  ·exact C q
  ·exact B q
 ·intro i k cs a u;have H:i<4:=(C9.1 a).1
  obtain rfl | rfl | rfl | rfl:i=0\/i=1\/i=2\/i=3:=by omega
  ·cases a;exact PE0 _ _
  ·cases a;exact RM0 _ _
  ·cases a;exact QZ0 _ _
  ·cases a;exact OO0 _ _
 ·intro i k K a u l m c L;have n:Has u N 97 #[.pointer (some ⟨g,0,none⟩)]:=c (N,_,_) (by simp[Vk]);have f:Has u g 181 cs:=c (g,_,_) (by simp[Vk]);have f1:Fit (D.Fp 1 0) 3:=r.cut _ _;have f2:Fit ((D.Fp 1 0).sync 1) 2:=f1.sync _;have I:Fit (((D.Fp 1 0).sync 1).write 1 0 (bsOf (Jb++slotL 1 0 p))) 1:=f2.write _ _ _;have v:(D.Fp 1 0).calm:=s.cut _ _;have y:((D.Fp 1 0).sync 1).calm:=v.sync _;have J:(((D.Fp 1 0).sync 1).write 1 0 (bsOf (Jb++slotL 1 0 p))).calm:=y.write _ _ _;have H:i<4:=(C9.1 a).1
  obtain rfl | rfl | rfl | rfl:i=0\/i=1\/i=2\/i=3:=by omega
  ·cases a;exact ZU0 l d g D N u m ((f.cell 0).trans j) f.lt n (r.less (by omega)) s
  ·cases a;exact UU0 l d g _ N u m ((f.cell 0).trans j) f.lt n (f1.less (by omega)) v
  ·cases a;exact YR0 l d g p _ N cs u m f j A n (f2.less (by omega)) y G
  ·cases a;exact SF0 l d g _ N u m ((f.cell 0).trans j) f.lt n I J
def EZ1(w:World)(b:List (Option Nat))(c g:Nat)(d:Dk)(cs:Array Value)(e:Ending)(w':World):Prop :=
 e = .returned (.int .i64 0)/\∃ a,DP w' a c d/\Has w' g 181 cs/\Turn (b++[some g]) (a++[some g]) w w'/\some g∉a
def DX1 (b:List (Option Nat)) (a g p:Nat) (D:Dk) (c d f i j t u:Value) (w:World) (h:DP w b a D) (o:Has w g 181 #[.pointer (some ⟨a,0,none⟩),c,d,f,i,.int .i64 p,j,t,u]) (s:some g∉b) (r:Fit D 4) (C:D.calm) (E:p<=4611686018427387904) :
 Calls Tryz.prog 113 #[.pointer (some ⟨g,0,none⟩)] w (EZ1 w b a g (YT D p 4) #[.pointer (some ⟨a,0,none⟩),c,d,f,i,.int .i64 p,j,.int .i64 0,.int .i64 1]):=by
 have v:=Ac h;have F:=Ac o;have x:=Ac s;have G:=Ac r;have l:=Ac (show Has (w.alloc (.cells #[.pointer (some ⟨g,0,none⟩)] 97)) w.heap.size 97 #[.pointer (some ⟨g,0,none⟩)]/\Below w.heap.size w (w.alloc (.cells #[.pointer (some ⟨g,0,none⟩)] 97))from⟨Has.new _ _ _,(AU _ _).alloc (AY _) _⟩);have H:=o.lt;clear h o s r;go_enter Tryz.func113,Tryz.ntmps113
 go_upto_region 1 with fail
 generalize w.alloc (.cells #[.pointer (some ⟨g,0,none⟩)] 97)=W at *;have I:=Ac (v.below l.2);have m:=Ac (F.Ai l.2);have V:=l.1.cell 0;have X:W.cell? ⟨g,7,none⟩=some t:=m.cell 7;have Y:W.cell? ⟨g,8,none⟩=some u:=m.cell 8;have Z:=m.frozen;have xz:=m.lt
 go_region
 all_goals
  have q:=Ac (((Turn.cell g 7 (.int .i64 0) W).trans (Turn.cell g 8 (.int .i64 1) _)));have J:=x.out;have K:=Ac (I.turn q (λk L n=>J ((show k=g by simpa using L) ▸ n)));have M:=Ac (show Has ((W.setCell ⟨g,7,none⟩ (.int .i64 0)).setCell ⟨g,8,none⟩ (.int .i64 1)) g 181 #[.pointer (some ⟨a,0,none⟩),c,d,f,i,.int .i64 p,j,.int .i64 0,.int .i64 1]from((m.set 7 _).set 8 _));have y:=Ac (l.1.turn q (λn=>Nat.ne_of_gt H (show w.heap.size=g by simpa using n)));have y0:=y.cell 0
  have N:=Ac (KA0 b a g p w.heap.size W.heap.size D #[.pointer (some ⟨a,0,none⟩),c,d,f,i,.int .i64 p,j,.int .i64 0,.int .i64 1] ((W.setCell ⟨g,7,none⟩ (.int .i64 0)).setCell ⟨g,8,none⟩ (.int .i64 1)) (by simp) K M rfl rfl y x (λn=>by have:=v.lt n;omega) G C E)
  go_wp2_with (go_at_call 116;refine N.mono ?_;rintro e O ⟨rfl,z⟩;have B:=Ac z;clear z)
  go_ret;obtain⟨A,P,Q,R,S⟩:=B;have T:Has O g 181 #[.pointer (some ⟨a,0,none⟩),c,d,f,i,.int .i64 p,j,.int .i64 0,.int .i64 1]:=Q (g,_,_) (by simp[Vk]);have U:some g∉A:=R (g,181,#[.pointer (some ⟨a,0,none⟩),c,d,f,i,.int .i64 p,j,.int .i64 0,.int .i64 1]) (by simp[Vk]);refine⟨rfl,A,P,T, ?_,U⟩;exact((Turn.below _ l.2).trans (q.right b)).trans (S.left [some g])
end Go.Proofs.YtjihboddejaelaaGreat
