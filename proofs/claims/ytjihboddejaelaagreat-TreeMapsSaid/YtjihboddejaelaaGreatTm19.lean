/-
  Package tree: Scan: what it answers; what its loop carries. 
-/
import Derived.Test.YtjihboddejaelaaGreatTm1
import Derived.Test.YtjihboddejaelaaGreatTm18
import Derived.Deep.LoopGhost
import Derived.Laws.StructEq
import Derived.StillTailTactics
set_option linter.unusedVariables false
set_option linter.unusedSimpArgs false
set_option linter.defProp false
set_option maxRecDepth 100000
set_option maxHeartbeats 100000000
namespace Go.Proofs.YtjihboddejaelaaGreat
open Go.RowKit Go.BigFrame
def KF(tk:Ky)(E:List En):List En:=E.takeWhile λe=>decide (tk=[]) || decide (ltK e.1 tk)
def NY(fr tk:Ky)(most:Int)(E:List En):List En :=
 let l:=KF tk (E.dropWhile λe=>decide (ltK e.1 fr))
 if most<0 then l else l.take most.toNat
def vT {fr:Ky}:∀ {E1 R:List En},(∀ e∈E1,ltK e.1 fr)->(∀ e∈R,EU fr e.1)->(E1++R).dropWhile (λe=>decide (ltK e.1 fr))=R
 | [],R,_,h2=>by
   cases R with
   | nil=>rfl
   | cons e R =>
     have:¬ ltK e.1 fr:=Md.1 (h2 e AZ);rw[JU,dM,EY this];rfl
 | e :: E1,R,h1,h2=>by
   rw[F7,dM,EW (h1 e AZ),AC rfl];exact vT (λx a=>h1 x (BF _ a)) h2
def Oj(l:List En):List Value:=l.flatMap λe=>[.string (AQ e.1),.string (AQ e.2)]
def jV(l:List En)(e:En):Oj (l++[e])=Oj l++[.string (AQ e.1),.string (AQ e.2)]:=by simp[Oj]
def Qu:(Tryz.prog.info? 177).map (λi=>(i.zero,i.size,i.bytes))=some (some (.agg #[.string ⟨#[]⟩,.string ⟨#[]⟩]),2,32):=by kernel_rfl
def Di:(Value.agg #[.string ⟨#[]⟩,.string ⟨#[]⟩]).cells.size=2:=by kernel_rfl
structure QH (tk:Ky) (most:Int) (T dn rem:List En):Prop where
 eq:T=dn++KF tk rem
 le:most<0\/(dn.length:Int)<=most
def QH.full{tk:Ky}{most:Int}{T dn a:List En}(h:QH tk most T dn a)(b:(dn.length:Int)=most):(if most<0 then T else T.take most.toNat)=dn:=by
 rw[AO (by omega),h.eq,TC (by omega),EE (by omega)]
def QH.ends{tk:Ky}{most:Int}{T dn b:List En}(h:QH tk most T dn b)(c:KF tk b=[]):(if most<0 then T else T.take most.toNat)=dn:=by
 have e:T=dn:=by rw[h.eq,c,GI]
 by_cases a:most<0
 ·rw[AC a,e]
 ·rw[AO a,e,EE (by have:=h.le.resolve_left a;omega)]
def QH.next{tk:Ky}{most:Int}{T dn a:List En}{e:En}(h:QH tk most T dn (e :: a))(c:¬(dn.length:Int)=most)(b:tk=[]\/ltK e.1 tk):QH tk most T (dn++[e]) a:=by
 refine⟨?_, ?_⟩
 ·rw [h.eq];unfold KF;rw[QW]
  have:(decide (tk=[]) || decide (ltK e.1 tk))=true:=by
   rcases b with h | h
   ·rw[EW h];rfl
   ·rw[EW h,Bool.or_true]
  rw[this,AC rfl];simp
 ·rcases h.le with h | h
  ·exact .inl h
  ·exact .inr (by rw[A8,JB];omega)
def AS1{tk:Ky}{e:En}{a:List En}(b:tk≠[])(c:¬ ltK e.1 tk):KF tk (e :: a)=[]:=by
 unfold KF;rw[QW,EY b,EY c];rfl
structure KW (W0 wr:World) (X X':List (Option Nat)) (tb p root xb n hb m cp:Nat) (A:Option Addr) (cs:List ByteArray) (v8:Value) (dn:List En):Prop where
 tu:Turn X X' W0 wr
 tm:TM wr X' tb p root
 nb:Has wr xb 116 #[.int .i64 n,.int .i64 1,.int .i64 hb,.slice A m cp]
 nx:some xb∉X'
 xw:W0.heap.size<=xb
 tx:tb≠xb
 tl:tb<W0.heap.size
 ss:SS wr A m cs
 rx:∀ a,A=some a->some a.block∉X'/\a.block<wr.heap.size/\a.block≠xb
 ow:wr.ownsRow W0.heap.size 177 2 v8 dn.length (Oj dn)
 ox:∀ g,v8.ownBlock=some g->some g∉X'/\g≠xb/\∀ a,A=some a->a.block≠g
section
variable {W0 wr w2:World} {X X' X2:List (Option Nat)} {tb p root xb n hb m cp:Nat} {A:Option Addr} {cs:List ByteArray} {v8:Value} {dn:List En}
def KW.turn(h:KW W0 wr X X' tb p root xb n hb m cp A cs v8 dn)(b:Turn X' X2 wr w2):KW W0 w2 X X2 tb p root xb n hb m cp A cs v8 dn :=
 ⟨h.tu.trans b,h.tm.turn b,b.has h.nb h.nx,b.out h.nx h.nb.lt,h.xw,h.tx,h.tl,h.ss.stay b.size λa e=>b.block _ (h.rx a e).2.1 (h.rx a e).1,λa e=>⟨b.out (h.rx a e).1 (h.rx a e).2.1,DD (h.rx a e).2.1 b.size,(h.rx a e).2.2⟩,
   Bo h.ow λg c=>b.block g (h.ow.lt g c).2 (h.ox g c).1,λg c=>⟨b.out (h.ox g c).1 (h.ow.lt g c).2,(h.ox g c).2⟩⟩
def KW.below(h:KW W0 wr X X' tb p root xb n hb m cp A cs v8 dn)(hb2:Below wr.heap.size wr w2):KW W0 w2 X X' tb p root xb n hb m cp A cs v8 dn:=h.turn (Turn.below _ hb2)
def KW.node (h:KW W0 wr X X' tb p root xb n hb m cp A cs v8 dn) (o:Turn X' X2 wr w2) {n2 hb2 d:Nat} {A2:Option Addr} {c:List ByteArray} (i:w2.ownsRow wr.heap.size 9 1 (.slice A2 c.length d) c.length (strs c)) (r:∀ g,(Value.slice A2 c.length d).ownBlock=some g->some g∉X2) :
 KW W0 ((((w2.setCell ⟨xb,0,none⟩ (.int .i64 n2)).setCell ⟨xb,1,none⟩ (.int .i64 1)).setCell ⟨xb,2,none⟩ (.int .i64 hb2)).setCell ⟨xb,3,none⟩ (.slice A2 c.length d)) X X2 tb p root xb n2 hb2 c.length d A2 c v8 dn:=by
 have k:=h.turn o
 have j:((((w2.setCell ⟨xb,0,none⟩ (.int .i64 n2)).setCell ⟨xb,1,none⟩ (.int .i64 1)).setCell ⟨xb,2,none⟩ (.int .i64 hb2)).setCell ⟨xb,3,none⟩ (.slice A2 c.length d)).heap.size=w2.heap.size:=by simp
 have s:=h.nb.lt
 have f:∀ a,A2=some a->some a.block∉X2/\a.block<w2.heap.size/\wr.heap.size<=a.block:=λa e=>by
  subst e;have q:=i.lt a.block rfl;exact⟨r a.block rfl,q.2,q.1⟩
 have l:∀ g,g≠xb->((((w2.setCell ⟨xb,0,none⟩ (.int .i64 n2)).setCell ⟨xb,1,none⟩ (.int .i64 1)).setCell ⟨xb,2,none⟩ (.int .i64 hb2)).setCell ⟨xb,3,none⟩ (.slice A2 c.length d)).heap[g]? = w2.heap[g]? := λg b=>by
  rw[CX _ _ _ _ b,CX _ _ _ _ b,CX _ _ _ _ b,CX _ _ _ _ b]
 refine⟨k.tu.UM k.xw,k.tm.FU k.tx,k.nb.FU,k.nx,k.xw,k.tx,k.tl,(SS.Ed i).stay (by rw[j];exact AY _) λa e=>l _ (by have:=(f a e).2.2;omega),λa e=>⟨(f a e).1,by rw[j];exact(f a e).2.1,by have:=(f a e).2.2;omega⟩,Bo k.ow λg b=>l g (k.ox g b).2.1,λg b=>⟨(k.ox g b).1,(k.ox g b).2.1,λa e=>?_⟩⟩;have:=(f a e).2.2;have:=(h.ow.lt g b).2;omega
def KW.app (h:KW W0 wr X X' tb p root xb n hb m cp A cs v8 dn) (q:∀ i,some i∈X'->i<wr.heap.size) {b:World} (j:Below wr.heap.size wr b) {e:En} {v':Value} (l:w2.ownsRow W0.heap.size 177 2 v' (dn.length+1) (Oj dn++[.string (AQ e.1),.string (AQ e.2)])) (c:b.grownBy w2 v8.ownBlock) (o:v'.ownBlock=v8.ownBlock\/v'.ownBlock=some b.heap.size) :
 KW W0 w2 X X' tb p root xb n hb m cp A cs v' (dn++[e]):=by
 have k:=h.below j;have f:∀ g,g<b.heap.size->v8.ownBlock≠some g->w2.heap[g]? = b.heap[g]? := λg r s=>c.block g r λe=>s e.symm;have w:=j.size;refine⟨k.tu.Yc c λg e=>(k.ow.lt g e).1,⟨(f tb k.tm.has.lt λe=>by have:=(h.ow.lt tb e).1;have:=h.tl;omega).trans k.tm.has,k.tm.out⟩,(f xb k.nb.lt λe=>(k.ox xb e).2.1 rfl).trans k.nb,k.nx,k.xw,k.tx,k.tl,k.ss.stay c.size λa e=>f _ (k.rx a e).2.1 λt=>(k.ox _ t).2.2 a e rfl,λa e=>⟨(k.rx a e).1,DD (k.rx a e).2.1 c.size,(k.rx a e).2.2⟩, ?_,λg d=>?_⟩
 ·rw[A8,jV];exact l
 ·rcases o with e | e
  ·rw[e]at d;exact k.ox g d
  ·have x:g=b.heap.size:=CV (d.symm.trans e);exact⟨λu=>by have:=q g u;omega,by have:=h.nb.lt;omega,λa v=>by have:=(h.rx a v).2.1;omega⟩
end
def aN(X:List (Option Nat))(w:World)(p:Nat)(S a:St)(c k:Nat)(dn:List En)(b:Ending)(w':World):Prop :=
 ∃ v X',b = .returned (.tuple #[v,.int .i64 0])/\w'.ownsRow w.heap.size 177 2 v dn.length (Oj dn)/\PT w' X' p S a c k/\Turn X X' w w'/\∀ g,v.ownBlock=some g->some g∉X'
def FV(w:World)(A:Option Addr)(E:List En):Prop :=
 0<E.length->∃ b,A=some ⟨b,0,none⟩/\b<w.heap.size/\∀ i e,E[i]? = some e->w.cell? ⟨b,i*2,none⟩=some (.string (AQ e.1))/\w.cell? ⟨b,i*2+1,none⟩=some (.string (AQ e.2))
structure Mp (w:World) (mb:Nat) (E:List En) (A:Option Addr) (c:Nat):Prop where
 has:Has w mb 83 #[.slice A E.length c]
 rd:FV w A E
 cp:E.length<=c
def aA(k:Ky)(E:List En):Fh k E<=E.length:=(List.takeWhile_prefix _).length_le
def yH {k:Ky}:∀ {E:List En} {i:Nat},i<=Fh k E->∀ h:i<E.length,Op.bytesLess E[i].1 k=decide (i<Fh k E)
 | e :: E,i,hi,h=>by
   have a:Fh k (e :: E)=if Op.bytesLess e.1 k then Fh k E+1 else 0:=by
    unfold Fh;rw[QW]
    split <;> rfl
   rw[a]at hi ⊢
   cases hb:Op.bytesLess e.1 k with
   | true =>
     rw[hb,AC rfl]at hi;rw[AC rfl]
     cases i with
     | zero=>exact hb.trans (EW (by omega)).symm
     | succ i =>
       have:=yH (k:=k) (E:=E) (i:=i) (by omega) (Nat.lt_of_succ_lt_succ h);rw[List.getElem_cons_succ,this];exact decide_eq_decide.2 (by omega)
   | false =>
     rw[hb,AO (by simp)]at hi
     have:i=0:=by omega
     subst this;rw[AO (by simp)];exact hb.trans (EY (by omega)).symm
def Y0{k:Ky}{E:List En}:Em k E=if h:Fh k E<E.length then E[Fh k E].1 == k else false:=by
 unfold Em
 split
 ·next h=>rw[FQ h];rfl
 ·next h=>rw[IY (by omega)];rfl
def jK {w:World} {mb c:Nat} {A:Option Addr} {E:List En} (key:Ky) (h:Mp w mb E A c) (B:E.length<=60000) :
 Calls Tryz.prog 179 #[.pointer (some ⟨mb,0,none⟩),.string (AQ key)] w (λe w'=>e = .returned (.tuple #[.int .i64 (Fh key E:Nat),.bool (Em key E)])/\Below w.heap.size w w'):=by
 have J:=h.has.cell 0;have T:=h.has.lt;have L:=Ac h.rd;have U:=Ac B
 have z:(AQ key).toList=key:=by rw[EL,Cb]
 have n:=Ac z;obtain⟨K,r⟩:∃ v,AQ key=v:=⟨_,rfl⟩;rw[r]at n ⊢;obtain⟨m,s⟩:∃ m,E.length=m:=⟨_,rfl⟩;have t:=Ac s
 have Q:m<=60000:=by omega
 rw[s]at J;clear h B r z s;go_enter Tryz.func179,Tryz.ntmps179
 go_wp2_with fail
 go_loopg [6] m (λM N wr=>∃ i:Nat,i+M=m/\i<=Fh key E/\N = .int .i64 i/\wr=w)
 case atStart=>exact⟨0,by omega,BR _,rfl,rfl⟩
 case round =>
  obtain⟨i,o,g,rfl,rfl⟩:=hrel;have O:=Ac (AV o g);by_cases hi:i<m
  ·have p:i<E.length:=by rw [t.out];exact hi
   obtain⟨b,rfl,W,u⟩:=L (by omega);obtain⟨C,D⟩:=u i E[i] (DK p);have d:=yH g p
   have R:(i:Int)<(m:Int):=by omega
   have j:(AQ E[i].1).toList=E[i].1:=by rw[EL,Cb]
   by_cases q:i<Fh key E
   ·rw [EW q] at d
    have x:Op.bytesLess (AQ E[i].1).toList K.toList=true:=by rw[n.out,j];exact d
    obtain⟨P,f⟩:∃ v,AQ E[i].1=v:=⟨_,rfl⟩;rw[f]at x C;clear d j f D u p o g
    go_wp2_with fail
    go_roundg (m-(i+1))
    case rel=>exact⟨i+1,by omega,q,D8 (Value.int .i64) (by omega),rfl⟩
    case measure=>have:=O.out;omega
   ·rw [EY q] at d
    have a:Fh key E=i:=by omega
    have k:Em key E=(E[i].1 == key):=by rw[Y0,dif_pos (by omega)];simp only[a]
    have x:Op.bytesLess (AQ E[i].1).toList K.toList=false:=by rw[n.out,j];exact d
    have F:((AQ E[i].1).toList == K.toList)=Em key E:=by rw[k,n.out,j]
    obtain⟨I,y⟩:∃ v,Em key E=v:=⟨_,rfl⟩;rw[y]at F;have l:=Ac (AV a y);obtain⟨P,f⟩:∃ v,AQ E[i].1=v:=⟨_,rfl⟩;rw[f]at x F C;clear d j f D u p o g k y a q
    go_wp2_with fail
    go_quiet (fail)
    go_wp2_with fail
    go_ret2;exact⟨show Ending.returned (.tuple #[.int .i64 (i:Nat),.bool I])=_ from by rw[l.1,l.2],PR (AU _ _) _⟩
  ·have G:i=m:=by omega
   have H:¬(i:Int)<(m:Int):=by omega
   have S:decide ((i:Int)<(m:Int))=false:=EY H
   have a:Fh key E=i:=by have:=aA key E;have:=t.out;omega
   have k:Em key E=false:=by rw[Y0,dif_neg (by have:=t.out;omega)]
   have l:=Ac (AV a k);clear o g a k
   go_wp2_with fail
   go_quiet (fail)
   go_wp2_with fail
   go_ret2;exact⟨show Ending.returned (.tuple #[.int .i64 (m:Nat),.bool false])=_ from by rw[l.1,l.2,G],PR (AU _ _) _⟩
def jP{k:Ky}{E:List En}(h:Em k E=true):Fh k E<E.length:=by
 rw[Y0]at h
 split at h
 ·next h2=>exact h2
 ·cases h
def OE1{k:Ky}{E:List En}(h:Fh k E<E.length):V6 k E=E[Fh k E].2:=by
 unfold V6;rw[FQ h];rfl
def FV.below{w w':World}{A:Option Addr}{E:List En}(h:FV w A E)(hb:Below w.heap.size w w'):FV w' A E:=λf=>by
 obtain⟨b,e,a,c⟩:=h f;exact⟨b,e,DD a hb.size,λi x d=>⟨(hb.cell (p:=⟨b,i*2,none⟩) a).trans (c i x d).1,(hb.cell (p:=⟨b,i*2+1,none⟩) a).trans (c i x d).2⟩⟩
def Mp.below{w w':World}{mb c:Nat}{A:Option Addr}{E:List En}(h:Mp w mb E A c)(hb:Below w.heap.size w w'):Mp w' mb E A c :=
 ⟨(hb.block _ h.has.lt).trans h.has,h.rd.below hb,h.cp⟩
def EA1 {w:World} {mb c:Nat} {A:Option Addr} {E:List En} (key:Ky) (h:Mp w mb E A c) (g:E.length<=60000) :
 Calls Tryz.prog 102 #[.pointer (some ⟨mb,0,none⟩),.string (AQ key)] w (λe w'=>e = .returned (.tuple #[.string (AQ (JG key E)),.bool (Em key E)])/\Below w.heap.size w w'):=by
 have d:=Ac (jK key h g);have H:=Ac h;obtain⟨K,l⟩:∃ v,AQ key=v:=⟨_,rfl⟩;rw[l]at d ⊢;obtain⟨n,f⟩:∃ n,Fh key E=n:=⟨_,rfl⟩;rw[f]at d;obtain⟨m,i⟩:∃ m,E.length=m:=⟨_,rfl⟩;have s:=Ac i
 cases a:Em key E with
 | false =>
   rw[a]at d;have j:=Ac (show JG key E=[]from by unfold JG;rw[a];rfl);clear h g l f a i;go_enter Tryz.func102,Tryz.ntmps102
   go_wp2_with (first
    |(go_at_call 179;(with_reducible refine d.out.mono ?_);rintro z w2 ⟨rfl,hb2⟩;have o:=Ac hb2;clear hb2))
   go_ret2;exact⟨by rw[j.out];rfl,o⟩
 | true =>
   rw[a]at d;have p:=jP a;have j:=Ac (show JG key E=E[Fh key E].2 from by unfold JG;rw[a,AC rfl,OE1 p])
   obtain⟨x,q,r⟩:∃ x,E[n]? = some x/\JG key E=x.2:=⟨E[Fh key E],by rw[<- f];exact DK p,j⟩
   have u:=Ac q;have y:=Ac r;rw[f,i]at p
   have F:(n:Int)<(m:Int):=by omega
   clear h g l f a i q r j;go_enter Tryz.func102,Tryz.ntmps102
   go_wp2_with (first
    |(go_at_call 179;(with_reducible refine d.out.mono ?_);rintro z w2 ⟨rfl,hb2⟩;have o:=Ac hb2;have k:=H.below hb2;have B:=k.has.cell 0;rw[s.out]at B;have G:=k.has.lt;obtain⟨b,rfl,I,t⟩:=k.rd (by have:=s.out;omega);obtain⟨J,L⟩:=t n x u;clear hb2 k t))
   go_ret2;exact⟨by rw[y.out];rfl,o⟩
def QI(fr tk:Ky)(most:Int)(acc:List En)(e:En):Bool:=!decide (ltK e.1 fr) && (decide (tk=[]) || decide (ltK e.1 tk)) && decide ((acc.length:Int)≠most)
def NW(fr tk:Ky)(most:Int)(acc:List En)(e:En):List En:=if QI fr tk most acc e then acc++[e]else acc
def Oz(fr tk:Ky)(most:Int)(E:List En):List En:=E.foldl (NW fr tk most) []
def ZJ0{fr tk:Ky}{most:Int}{E:List En}{i:Nat}(h:i<E.length):Oz fr tk most (E.take (i+1))=NW fr tk most (Oz fr tk most (E.take i)) E[i]:=by
 unfold Oz;rw[JS h,dF];rfl
def CU1(fr tk:Ky)(most:Int)(acc:List En)(e:En):(NW fr tk most acc e).length<=acc.length+1:=by
 unfold NW;split <;> simp
def Zy (fr tk:Ky) (most:Int):∀ (E:List En) (acc:List En),(E.foldl (NW fr tk most) acc).length<=acc.length+E.length
 | [],acc=>AY _
 | e :: E,acc=>by
   have:=Zy fr tk most E (NW fr tk most acc e);have:=CU1 fr tk most acc e;rw[dE,DF];omega
structure IG (w wr:World) (v9:Value) (acc:List En):Prop where
 be:Below w.heap.size w wr
 ow:wr.ownsRow w.heap.size 177 2 v9 acc.length (Oj acc)
def IG.below{w wr w2:World}{a:Value}{acc:List En}(h:IG w wr a acc)(hb:Below wr.heap.size wr w2):IG w w2 a acc :=
 ⟨h.be.trans (hb.mono h.be.size),Bo h.ow λg b=>hb.block g (h.ow.lt g b).2⟩
def IG.app{w b a:World}{v c:Value}{acc:List En}{e:En}{o:Obj}(h:IG w b v acc)(d:a.ownsRow w.heap.size 177 2 c (acc.length+1) (Oj acc++[.string (AQ e.1),.string (AQ e.2)]))(f:(b.alloc o).grownBy a v.ownBlock):IG w a c (acc++[e]) :=
 ⟨(h.be.alloc h.be.size _).grown f (BN h.be.size (by simp)) λk g=>(h.ow.lt k g).1,by rw[A8,JB,jV];exact d⟩
def rE {w:World} {mb c:Nat} {A:Option Addr} {E:List En} (fr tk:Ky) (most:Int) (h:Mp w mb E A c) (hE:E.length<=60000) :
 Calls Tryz.prog 107 #[.pointer (some ⟨mb,0,none⟩),.string (AQ fr),.string (AQ tk),.int .i64 most] w (λe w'=>∃ v,e = .returned v/\Below w.heap.size w w'/\w'.ownsRow w.heap.size 177 2 v (Oz fr tk most E).length (Oj (Oz fr tk most E))):=by
 have g0:=h.has.cell 0;have gz:=h.has.lt;have H:=Ac h;have HE:=Ac hE
 have L:(AQ fr).toList=fr:=by rw[EL,Cb]
 have M:(AQ tk).toList=tk:=by rw[EL,Cb]
 obtain⟨F,W⟩:∃ v,AQ fr=v:=⟨_,rfl⟩;obtain⟨T,X⟩:∃ v,AQ tk=v:=⟨_,rfl⟩;rw[W]at L ⊢;rw[X]at M ⊢;have t:=Ac (AV L M);obtain⟨m,N⟩:∃ m,E.length=m:=⟨_,rfl⟩;have HM:=Ac N
 have ap:(m:Int)<=60000:=by omega
 rw[N]at g0;obtain⟨i0,hi,ai,aj,ak⟩:=IP Qu;clear h hE L M W X N;go_enter Tryz.func107,Tryz.ntmps107
 go_wp2_with fail
 go_loopg [9,17] m (λgg v9 al wr=>∃(i:Nat),i+gg=m/\al = .int .i64 i/\IG w wr v9 (Oz fr tk most (E.take i)))
 case atStart=>exact⟨0,by omega,rfl,AU _ _,JJ _ _ _ _⟩
 case round =>
  obtain⟨i,I,rfl,j⟩:=hrel;have f:=Ac I;have C:=Ac j;obtain⟨Av,cv,rfl,_⟩:=Bg j.ow;by_cases am:i<m
  ·have J:i<E.length:=by rw [HM.out];exact am
   have aq:(i:Int)<(m:Int):=by omega
   obtain⟨b,rfl,gb,rc⟩:=(H.below j.be).rd (by omega)
   obtain⟨O,P⟩:=rc i E[i] (DK J);have z:=ZJ0 (fr:=fr) (tk:=tk) (most:=most) J;obtain⟨acc,y⟩:∃ l,Oz fr tk most (E.take i)=l:=⟨_,rfl⟩
   have Y:acc.length<=i:=by have:=Zy fr tk most (E.take i) [];rw[<- y];unfold Oz;rw[CU]at this;simp at this ⊢;omega
   obtain⟨e,he⟩:∃ e,E[i]=e:=⟨_,rfl⟩;rw[y]at z C;rw[he]at z O P
   have Z:(AQ e.1).toList=e.1:=by rw[EL,Cb]
   have aa:=Ac z;have B:=Ac Z;have ab:=Ac Y;rw[y];clear z Z j rc I J y he Y;obtain⟨a,D⟩:∃ v,AQ e.1=v:=⟨_,rfl⟩;obtain⟨u,K⟩:∃ v,AQ e.2=v:=⟨_,rfl⟩;have q:=Ac (AV D K);rw[D]at O;rw[K]at P;clear D K
   go_upto_region 5 with fail
   have x:=Has.new wr 177 #[.string a,.string u];have r:=Ac (C.below (Ag wr (.cells #[.string a,.string u] 177)));obtain⟨xb,ac⟩:∃ n,wr.heap.size=n:=⟨_,rfl⟩;rw[ac]at x ⊢;generalize wr.alloc (.cells #[.string a,.string u] 177)=Q at *;have k0:=x.cell 0;have k1:=x.cell 1;have kz:=x.lt;clear x C O P gb ac g0 gz
   have V:QI fr tk most acc e=false->Oz fr tk most (E.take (i+1))=acc:=λh=>by rw[aa.out];unfold NW;rw[AO (by rw[h];exact RH)]
   have G:=Ac V;clear V;by_cases g:ltK e.1 fr
   ·have b1:Op.bytesLess a.toList F.toList=true:=by rw [<- q.1,B.out,t.1];exact g
    have k:=G (by unfold QI;rw[EW g];rfl);have o:=Ac k;clear k g
    go_wp2_with fail
    go_roundg (m-(i+1))
    case rel=>exact⟨i+1,by have:=f.out;omega,D8 (Value.int .i64) (by omega),by rw[o.out];exact r⟩
    case measure=>have:=f.out;omega
   ·have b1:Op.bytesLess a.toList F.toList=false:=by rw [<- q.1,B.out,t.1];exact dO.2 g
    by_cases d:tk=[]\/ltK e.1 tk
    ·have ad:(T.toList.isEmpty=true)\/(T.toList.isEmpty=false/\Op.bytesLess a.toList T.toList=true):=by
      rw[<- q.1,B.out,t.2]
      by_cases R:tk=[]
      ·exact .inl (by rw[R];rfl)
      ·exact .inr ⟨by rw[dC];exact R,d.resolve_left R⟩
     by_cases s:(acc.length:Int)=most
     ·have em:((acc.length:Int) != most)=false:=by rw [QS];exact s
      have o:=Ac (G (by unfold QI;rw[EY (p:=((acc.length:Int)≠most)) (by simp[s]),Bool.and_false]));clear g d s
      rcases ad with k |⟨k,t2⟩
      all_goals
       go_wp2_with fail
       go_roundg (m-(i+1))
       case rel=>exact⟨i+1,by have:=f.out;omega,D8 (Value.int .i64) (by omega),by rw[o.out];exact r⟩
       case measure=>have:=f.out;omega
     ·have em:((acc.length:Int) != most)=true:=by rw [OE];exact s
      have ae:(decide (tk=[]) || decide (ltK e.1 tk))=true:=by
       rcases d with h | h
       ·rw[EW h];rfl
       ·rw[EW h,Bool.or_true]
      have o:=Ac (show Oz fr tk most (E.take (i+1))=acc++[e]from by rw[aa.out];unfold NW QI;rw[EY g,ae,EW (p:=((acc.length:Int)≠most)) s];rfl);have G1:=Ac (show acc.length+1<=maxLen by have:=ab.out;unfold maxLen;omega);have G2:=Ac (show(acc.length+1)*32<=140737488355328 by have:=ab.out;omega);clear g d s ae
      rcases ad with k |⟨k,t2⟩
      all_goals
       go_wp2_with (first
        |(at_builtin;(refine Aq _ rfl (.tmp 41) (.tmp 43) 81 81 rfl w.heap.size 177 i0 _ 2 32 FZ hi ai aj ak Di (by decide) (.slice Av acc.length cv) acc.length (Oj acc) rfl (r.ow.alloc _) (.slice (some ⟨Q.heap.size,0,none⟩) 1 1) 1 [.string a,.string u] rfl (IW _ FZ ⟨Q.heap.size,0,none⟩ 1 1 [.string a,.string u] rfl (JQ (I8 Q _)) (by simp[Value.oneCell'])) G1 G2 (BN r.be.size (by simp)) ?_);intro v7 w7 U af _ ah;have O7:=Ac U;have an:=Ac af;clear U af ah))
       go_roundg (m-(i+1))
       case rel =>
        have o7:=O7.out;rw[<- q.1,<- q.2]at o7;exact⟨i+1,by have:=f.out;omega,D8 (Value.int .i64) (by omega),by rw[o.out];exact r.app o7 an⟩
       case measure=>have:=f.out;omega
    ·have k:T.toList.isEmpty=false:=by rw [t.2,dC];exact λh=>d (.inl h)
     have t2:Op.bytesLess a.toList T.toList=false:=by rw[<- q.1,B.out,t.2];exact dO.2 λh=>d (.inr h)
     have o:=Ac (G (by unfold QI;rw[EY (λh=>d (.inl h)),EY (p:=ltK e.1 tk) (λh=>d (.inr h))];simp));clear g d
     go_wp2_with fail
     go_roundg (m-(i+1))
     case rel=>exact⟨i+1,by have:=f.out;omega,D8 (Value.int .i64) (by omega),by rw[o.out];exact r⟩
     case measure=>have:=f.out;omega
  ·have ao:i=m:=by omega
   have ar:¬(i:Int)<(m:Int):=by omega
   have S:E.take i=E:=EE (by have:=HM.out;omega);have ag:=Ac (show IG w wr (.slice Av (Oz fr tk most (E.take m)).length cv) (Oz fr tk most E)from by rw[<- ao,S];rw[S]at j;exact j);clear I j S C
   go_wp2_with fail
   go_ret;exact⟨_,rfl,ag.be,ag.ow⟩
def CC1:∀ {E:List En} {i:Nat} {e:En},E[i]? = some e->(Oj E)[i*2]? = some (.string (AQ e.1))/\(Oj E)[i*2+1]? = some (.string (AQ e.2))
 | x :: E,0,e,h=>by
   have:x=e:=CV h;subst this;exact⟨rfl,rfl⟩
 | x :: E,i+1,e,h=>by
   have:=CC1 (E:=E) (i:=i) (e:=e) h;have a:Oj (x :: E) = .string (AQ x.1) :: .string (AQ x.2) :: Oj E:=rfl;rw[a,show(i+1)*2=i*2+1+1 by omega,show i*2+1+1+1=(i*2+1)+1+1 by omega];exact this
def FV.Ed{w:World}{f c n:Nat}{A:Option Addr}{E:List En}(h:w.ownsRow f 177 2 (.slice A n c) n (Oj E))(q:E.length=n):FV w A E:=λs=>by
 rcases h.2 with⟨t,u⟩ |⟨b,cap,p,j,hb,k,r⟩
 ·omega
 ·have e:A=some ⟨b,0,none⟩:=by injection j
  subst e;refine⟨b,rfl,(LK.1 k).1,λi x l=>?_⟩;obtain⟨m,o⟩:=CC1 l;have a:=h.cells (g:=b) rfl _ _ m;have d:=h.cells (g:=b) rfl _ _ o;rw[addr_add,FM]at a d;exact⟨a,d⟩
def Zl(fr tk:Ky)(most:Int)(E:List En):List En :=
 let l:=(Oz fr tk (-1) E).reverse
 if most<0 then l else l.take most.toNat
def JK1 {w:World} {mb c:Nat} {A:Option Addr} {E:List En} (fr tk:Ky) (most:Int) (h:Mp w mb E A c) (W:E.length<=60000) :
 Calls Tryz.prog 109 #[.pointer (some ⟨mb,0,none⟩),.string (AQ fr),.string (AQ tk),.int .i64 most] w (λe w'=>∃ v,e = .returned v/\Below w.heap.size w w'/\w'.ownsRow w.heap.size 177 2 v (Zl fr tk most E).length (Oj (Zl fr tk most E))):=by
 have x:=Ac (rE fr tk (-1) h W);obtain⟨F,Q⟩:∃ v,AQ fr=v:=⟨_,rfl⟩;obtain⟨T,R⟩:∃ v,AQ tk=v:=⟨_,rfl⟩;rw[Q,R]at x ⊢;have X:=Zy fr tk (-1) E []
 have C:(Oz fr tk (-1) E).length<=60000:=by unfold Oz;simp only[cZ]at X;omega
 have I:=Ac (show Zl fr tk most E=if most<0 then(Oz fr tk (-1) E).reverse else(Oz fr tk (-1) E).reverse.take most.toNat from rfl);obtain⟨a,P⟩:∃ l,Oz fr tk (-1) E=l:=⟨_,rfl⟩;rw[P]at x I C;obtain⟨m,J⟩:∃ m,a.length=m:=⟨_,rfl⟩;have n:=Ac J;rw[J]at x C
 have aj:(m:Int)<=60000:=by omega
 obtain⟨i0,hi,ac,ad,ae⟩:=IP Qu;clear h W Q R X P J C;go_enter Tryz.func109,Tryz.ntmps109
 go_wp2_with (first
  |(go_at_call 107;(with_reducible refine x.out.mono ?_);rintro en w2 ⟨v,rfl,hb2,D⟩;obtain⟨A2,c2,rfl,_⟩:=Bg D;have o:=Ac hb2;have R2:=Ac (FV.Ed D n);clear hb2 D))
 go_loopg [9,11] m (λgg v9 af wr=>∃ j:Nat,j+gg=m/\af = .int .i64 ((m:Int)-1-j)/\IG w2 wr v9 (a.reverse.take j)/\(most<0\/(j:Int)<=most))
 case atStart=>exact⟨0,by omega,by simp,⟨AU _ _,JJ _ _ _ _⟩,by omega⟩
 case round =>
  obtain⟨j,r,rfl,d,s⟩:=hrel
  have f:(a.reverse.take j).length=j:=by rw[CU,YE,n.out];omega
  have MS:=Ac d;obtain⟨y,z,rfl,_⟩:=Bg d.ow;rw[f];have K:=Ac (AV r s);by_cases g:(j:Int)=most
  ·have em:((j:Int) != most)=false:=by rw [QS];exact g
   have L:=Ac (show Zl fr tk most E=a.reverse.take j from by rw[I.out,AO (by omega),show most.toNat=j by omega])
   have t:=Ac (show Below w.heap.size w wr/\wr.ownsRow w.heap.size 177 2 (.slice y j z) (Zl fr tk most E).length (Oj (Zl fr tk most E))from by
    rw[L.out];refine⟨o.trans (d.be.mono o.size),own_base ?_ o.size⟩;have q:=d.ow
    rw[f]at q ⊢;exact q)
   by_cases p:j<m
   ·obtain ⟨i,u⟩:∃ i:Nat,i+j+1=m:=⟨m-1-j,by omega⟩
    rw[show(m:Int)-1-j=(i:Int)by omega]
    have z0:(0:Int)<=(i:Int):=by omega
    clear r d f g s p u
    go_wp2_with fail
    go_ret;exact⟨_,rfl,t⟩
   ·rw [show (m:Int)-1-j = -1 by omega];clear r d f g s p
    go_wp2_with fail
    go_ret;exact⟨_,rfl,t⟩
  ·have em:((j:Int) != most)=true:=by rw [OE];exact g
   by_cases p:j<m
   ·obtain ⟨i,u⟩:∃ i:Nat,i+j+1=m:=⟨m-1-j,by omega⟩
    rw[show(m:Int)-1-j=(i:Int)by omega]
    have z0:(0:Int)<=(i:Int):=by omega
    have z1:(i:Int)<(m:Int):=by omega
    have z2:(i:Int)<=60000:=by omega
    have S:i<a.length:=by rw[n.out];omega
    have Y:=R2.below d.be;obtain⟨b,rfl,gb,Z⟩:=Y (by omega);obtain⟨q1,q2⟩:=Z i a[i] (DK S)
    have G:a.reverse.take (j+1)=a.reverse.take j++[a[i]]:=by
     have ak:=n.out;rw[JS (by rw[YE];omega),List.getElem_reverse]
     congr 2
     congr 1
     omega
    obtain⟨e,he⟩:∃ e,a[i]=e:=⟨_,rfl⟩;rw[he]at q1 q2 G;obtain⟨KE,B⟩:∃ v,AQ e.1=v:=⟨_,rfl⟩;obtain⟨VE,H⟩:∃ v,AQ e.2=v:=⟨_,rfl⟩;have k:=Ac (AV B (AV H (AV G (AV f u))));have HN:=Ac g;rw[B]at q1;rw[H]at q2;have G1:=Ac (show(a.reverse.take j).length+1<=maxLen by unfold maxLen;omega);have G2:=Ac (show((a.reverse.take j).length+1)*32<=140737488355328 by omega);have ag:=Ac f
    have U:wr.ownsRow w2.heap.size 177 2 (.slice y j z) (a.reverse.take j).length (Oj (a.reverse.take j)):=by have q:=d.ow;rw[f]at q ⊢;exact q
    have ah:=Ac U;have SZ:=Ac d.be.size;clear U r d f g s p u S Y Z he B H G
    go_wp2_with (first
     |(at_builtin;(refine Aq _ rfl (.tmp 29) (.tmp 34) 81 81 rfl w2.heap.size 177 i0 _ 2 32 FZ hi ac ad ae Di (by decide) (.slice y j z) (a.reverse.take j).length (Oj (a.reverse.take j)) rfl (ah.alloc _) (.slice (some ⟨wr.heap.size,0,none⟩) 1 1) 1 [.string KE,.string VE] rfl (IW _ FZ ⟨wr.heap.size,0,none⟩ 1 1 [.string KE,.string VE] rfl (JQ (I8 wr _)) (by simp[Value.oneCell'])) G1 G2 (BN SZ (by simp)) ?_);intro v7 w7 O V _ aa;have O7:=Ac O;have ai:=Ac V;clear O V aa))
    go_roundg (m-(j+1))
    case rel =>
     have o7:=O7.out;rw[<- k.1,<- k.2.1]at o7;have M:=MS.out;rw[ag.out]at M;have ma:=M.app o7 ai;refine⟨j+1,by have:=K.out;have:=k.out;omega,D8 (Value.int .i64) (by have:=k.out;omega),by rw[k.2.2.1];exact ma, ?_⟩;have:=K.out;have:=HN.out;omega
    case measure=>have:=K.out;have:=k.out;omega
   ·rw [show (m:Int)-1-j = -1 by omega]
    have ab:j=m:=by omega
    have N:a.reverse.take j=a.reverse:=EE (by rw[YE,n.out];omega)
    have L:=Ac (show Zl fr tk most E=a.reverse.take j from by
     rw[I.out]
     split
     ·exact N.symm
     ·rw[N];exact EE (by rw[YE,n.out];omega))
    have t:=Ac (show Below w.heap.size w wr/\wr.ownsRow w.heap.size 177 2 (.slice y j z) (Zl fr tk most E).length (Oj (Zl fr tk most E))from by
     rw[L.out];refine⟨o.trans (d.be.mono o.size),own_base ?_ o.size⟩;have q:=d.ow
     rw[f]at q ⊢;exact q)
    clear r d f g s p ab N
    go_wp2_with fail
    go_ret;exact⟨_,rfl,t⟩
def JQ1(E:List En):(Oj E).length=E.length*2:=by
 induction E with
 | nil=>rfl
 | cons e E a=>show(.string (AQ e.1) :: .string (AQ e.2) :: Oj E).length=_;rw[DF,DF,a,DF];omega
def iJ:∀ {E:List En} {t:Nat} {u:Value},(Oj E)[t]? = some u->∃ i e,E[i]? = some e/\((t=i*2/\u = .string (AQ e.1))\/(t=i*2+1/\u = .string (AQ e.2)))
 | [],t,u,h=>by simp[Oj]at h
 | e :: E,0,u,h=>⟨0,e,rfl,.inl ⟨rfl,(CV h).symm⟩⟩
 | e :: E,1,u,h=>⟨0,e,rfl,.inr ⟨rfl,(CV h).symm⟩⟩
 | e :: E,t+2,u,h=>by
   obtain⟨i,x,c,d⟩:=iJ (E:=E) (t:=t) (u:=u) h;refine⟨i+1,x,c, ?_⟩
   rcases d with⟨a,b⟩ |⟨a,b⟩
   ·exact .inl ⟨by omega,b⟩
   ·exact .inr ⟨by omega,b⟩
def FV.src{w:World}{b c j n:Nat}{E:List En}(h:FV w (some ⟨b,0,none⟩) E)(v:j+n<=E.length){k g:TypeId}{P:Program}(l:P.underlying g=some (.slice k)):Src P 2 g (.slice (some ⟨b,j*2,none⟩) n c) n (Oj ((E.drop j).take n)) w:=by
 have m:((E.drop j).take n).length=n:=by rw[CU,DJ];omega
 refine IW w l _ n c _ (by rw[JQ1,m]) (λt u d=>?_) (λu d=>?_)
 ·obtain ⟨i,e,f,q⟩:=iJ d
  have hi:i<n:=by have:=(C9.1 f).1;omega
  rw[GZ,AC hi,IX]at f;obtain⟨x,a,_,o⟩:=h (by omega)
  injection a with a
  injection a with a
  subst a;obtain⟨p,r⟩:=o _ _ f;rw[addr_add]
  rcases q with⟨rfl,rfl⟩ |⟨rfl,rfl⟩
  ·rw[show j*2+i*2=(j+i)*2 by omega];exact p
  ·rw[show j*2+(i*2+1)=(j+i)*2+1 by omega];exact r
 ·obtain ⟨t,s⟩:=dD d
  obtain⟨i,e,_,q | q⟩:=iJ s <;> rw[q.2] <;> simp[Value.oneCell']
def FV.V7{w:World}{A:Option Addr}{c n:Nat}{E:List En}(h:FV w A E)(i:n<=E.length){g f:TypeId}{P:Program}(d:P.underlying f=some (.slice g)):Src P 2 f (.slice A n c) n (Oj (E.take n)) w:=by
 rcases S9 n with rfl | k
 ·cases A with
  | none=>exact Src.ofNil w d c
  | some a=>exact IW w d a 0 c [] rfl (λj u e=>by simp at e) (λu e=>by simp at e)
 ·obtain ⟨b,rfl,_⟩:=h (by omega);have:=FV.src (j:=0) (n:=n) (c:=c) h (by omega) d;rw[GV,Nat.zero_mul]at this;exact this
def FV.gB{w:World}{A:Option Addr}{c e n:Nat}{E:List En}(h:FV w A E)(k:e+n=E.length){i d:TypeId}{P:Program}(f:P.underlying d=some (.slice i)):Src P 2 d (.slice (Option.map (λx=>x.add (e*2)) A) n c) n (Oj (E.drop e)) w:=by
 rcases S9 n with rfl | l
 ·rw [IY (by omega)]
  cases A with
  | none=>exact Src.ofNil w f c
  | some a=>exact IW w f _ 0 c [] rfl (λj u g=>by simp at g) (λu g=>by simp at g)
 ·obtain ⟨b,rfl,_⟩:=h (by omega);have q:=FV.src (j:=e) (n:=n) (c:=c) h (by omega) f;rw[EE (by rw[DJ];omega)]at q;show Src P 2 d (.slice (some (Addr.add ⟨b,0,none⟩ (e*2))) n c) n (Oj (E.drop e)) w;rw[addr_add,FM];exact q
def FM1{k v:Ky}{E:List En}{n d:Nat}(a:Fh k E=n)(b:(if Em k E then 1 else 0)=d):JZ k v E=(E.take n++[(k,v)])++E.drop (n+d):=by
 unfold JZ;rw[a,b];simp
def fK {w w2 d:World} {mb c c9:Nat} {A A9:Option Addr} {E L:List En} (hb:Below w.heap.size w w2) (h:Mp w mb E A c) (l:Mp w2 mb E A c) (m:IG w2 d (.slice A9 L.length c9) L) (q:L.length<=c9) :
 w.grownBy (d.setCell ⟨mb,0,none⟩ (.slice A9 L.length c9)) (some mb)/\∃ A' c',Mp (d.setCell ⟨mb,0,none⟩ (.slice A9 L.length c9)) mb L A' c'/\∀ a,A'=some a->w.heap.size<=a.block:=by
 have f:=hb.trans (m.be.mono hb.size);have r:=l.below m.be;have g:∀ a,A9=some a->w2.heap.size<=a.block:=λa e=>(m.ow.lt a.block (by rw[e];rfl)).1;refine⟨⟨f.os,f.tape,f.output,by simp[World.setCell];exact f.size,λk s t=>(CX _ _ _ _ (λe=>t (by rw[e]))).trans (f.block k s)⟩,A9,c9,⟨?_, ?_,q⟩,λa e=>BN hb.size (g a e)⟩
 ·exact r.has.set 0 _
 ·intro u;obtain⟨b,e,v,j⟩:=FV.Ed m.ow rfl u
  have p:b≠mb:=by have:=g _ e;have:=l.has.lt;dsimp only at *;omega
  refine⟨b,e,by simp[World.setCell];exact v,λi x n=>⟨?_, ?_⟩⟩
  all_goals
   have o:(d.setCell ⟨mb,0,none⟩ (.slice A9 L.length c9)).heap[b]? = d.heap[b]? := CX _ _ _ _ p
  ·rw[<-(j i x n).1];unfold World.cell?;simp only[o]
  ·rw[<-(j i x n).2];unfold World.cell?;simp only[o]
def IG.VY{w b a:World}{v c:Value}{acc R:List En}{m:Nat}(h:IG w b v acc)(e:R.length=m)(d:a.ownsRow w.heap.size 177 2 c (acc.length+m) (Oj acc++Oj R))(f:b.grownBy a v.ownBlock):IG w a c (acc++R) :=
 ⟨h.be.grown f h.be.size λk g=>(h.ow.lt k g).1,by rw[A8,e,show Oj (acc++R)=Oj acc++Oj R by simp[Oj]];exact d⟩
def NU1 {w:World} {mb c:Nat} {A:Option Addr} {E:List En} (key v:Ky) (h:Mp w mb E A c) (hE:E.length<=60000) :
 Calls Tryz.prog 104 #[.pointer (some ⟨mb,0,none⟩),.string (AQ key),.string (AQ v)] w (λe w'=>e = .returned (.tuple #[])/\w.grownBy w' (some mb)/\∃ A' c',Mp w' mb (JZ key v E) A' c'/\∀ a,A'=some a->w.heap.size<=a.block):=by
 have R:=Ac (jK key h hE);have H:=Ac h;obtain⟨K,S⟩:∃ v,AQ key=v:=⟨_,rfl⟩;obtain⟨V,hV⟩:∃ u,AQ v=u:=⟨_,rfl⟩;have HK:=Ac (AV S hV);rw[S]at R;rw[S,hV];have ab:=aA key E;obtain⟨n,hn⟩:∃ n,Fh key E=n:=⟨_,rfl⟩;have HN:=Ac hn;rw[hn]at R ab;obtain⟨m,T⟩:∃ m,E.length=m:=⟨_,rfl⟩;have g:=Ac T;rw[T]at ab
 have z1:(0:Int)<=(n:Int):=by omega
 have z2:(n:Int)<=(m:Int):=by omega
 have z3:(m:Int)<=60000:=by omega
 have aj:=h.cp;rw[T]at aj
 have z4:n<=c:=by omega
 have z5:m<=c:=aj;obtain⟨is,ak⟩:∃ b,Em key E=b:=⟨_,rfl⟩;rw[ak]at R;have ac:=Ac ak;obtain⟨U,hi,O,P,Q⟩:=IP Qu;clear h hE S hV hn T;go_enter Tryz.func104,Tryz.ntmps104
 go_upto_region 2 with(first
  |(go_at_call 179;(with_reducible refine R.out.mono ?_);rintro en w2 ⟨rfl,hb2⟩;have B2:=Ac hb2;have F:=H.below hb2;have x:=Ac F;have y:=F.has.cell 0;rw[g.out]at y;have W:=F.has.lt;have X:=F.has.frozen;clear hb2 F))
 have av:=Ac (show 0+n<=maxLen by unfold maxLen;omega);have aw:=Ac (show(0+n)*32<=140737488355328 by omega)
 have al:n<=E.length:=by rw[g.out];exact ab
 have am:(E.take n).length=n:=by rw[CU];omega
 have S1:=Ac ((x.rd.V7 (n:=n) (c:=c) al FZ));have z:=Ac am;clear al am
 go_upto_region 3 with(first
  |(at_builtin;(refine Aq _ rfl (.tmp 15) (.tmp 21) 81 81 rfl w2.heap.size 177 U _ 2 32 FZ hi O P Q Di (by decide) (.slice none 0 0) 0 [] rfl (JJ _ _ _ _) (.slice A n c) n (Oj (E.take n)) rfl S1 av aw (AY _) ?_);intro v5 Y ah an _ ar;have O5:=Ac ah;have ao:=Ac an;clear ah an ar))
 have m1:IG w2 Y v5 (E.take n):=by
  have q:=IG.VY (acc:=[]) ⟨AU _ _,JJ _ _ _ _⟩ z O5 ao;exact q
 obtain⟨A5,c5,rfl,_⟩:=Bg m1.ow;have M1:=Ac m1;have G1:=Ac (show(E.take n).length+1<=maxLen by have:=z.out;unfold maxLen;omega);have G2:=Ac (show((E.take n).length+1)*32<=140737488355328 by have:=z.out;omega);clear m1 O5 ao S1 y W X
 go_upto_region 4 with(first
  |(at_builtin;(refine Aq _ rfl (.tmp 23) (.tmp 27) 81 81 rfl w2.heap.size 177 U _ 2 32 FZ hi O P Q Di (by decide) (.slice A5 (E.take n).length c5) (E.take n).length (Oj (E.take n)) rfl (M1.ow.alloc _) (.slice (some ⟨Y.heap.size,0,none⟩) 1 1) 1 [.string K,.string V] rfl (IW _ FZ ⟨Y.heap.size,0,none⟩ 1 1 [.string K,.string V] rfl (JQ (I8 Y _)) (by simp[Value.oneCell'])) G1 G2 (BN M1.be.size (by simp)) ?_);intro v7 G ai ap _ au;have O7:=Ac ai;have aq:=Ac ap;clear ai ap au))
 have m2:IG w2 G v7 (E.take n++[(key,v)]):=M1.app (e:=(key,v)) (by have o7:=O7.out;rw[<- HK.1,<- HK.2]at o7;exact o7) aq;have I:=x.below m2.be;have o:=Ac m2;have Z:=Ac I;have y:=I.has.cell 0;rw[g.out]at y;have W:=I.has.lt;have X:=I.has.frozen;obtain⟨A7,c7,rfl,_⟩:=Bg m2.ow;clear m2 I O7 aq
 have z6:is=true->n<m:=λh=>by have:=jP (ac.trans h);rw[HN.out,g.out]at this;exact this
 cases is with
 | false =>
   have ax:n+0<=m:=by omega
   have J:=Ac (FM1 (k:=key) (v:=v) (E:=E) (n:=n) (d:=0) HN (by rw[ac.out];rfl))
   have f:(E.take n++[(key,v)]).length=n+1:=by rw[A8,z.out];rfl
   obtain⟨i,B⟩:∃ l,E.take n++[(key,v)]=l:=⟨_,rfl⟩;rw[B]at o f J ⊢;have S3:=Ac (Z.rd.gB (e:=n) (n:=m-n) (c:=c-n) (by rw[g.out];omega) FZ);rw[f];clear B;have ad:=Ac (show n+1+(m-n)<=maxLen by unfold maxLen;omega);have ae:=Ac (show(n+1+(m-n))*32<=140737488355328 by omega);have r:=Ac f
   have z7:(n:Int)<=(c:Int):=by omega
   have z8:(n:Int)<=(m:Int):=by omega
   have M:=Ac (show(E.drop n).length=m-n by rw[DJ,g.out]);have OW:=Ac (show G.ownsRow w2.heap.size 177 2 (.slice A7 (n+1) c7) (n+1) (Oj i)from by have q:=o.ow;rw[f]at q;exact q)
   have S4:=Ac (λ(h:c=n) (N:Nat)=>show Src Tryz.prog 2 81 (.slice A (m-n) N) (m-n) (Oj (E.drop n)) G from by
    have q:=Z.rd.V7 (n:=0) (c:=N) (BR _) FZ;rw[show m-n=0 by omega,IY (by rw[g.out];omega)]
    exact q)
   by_cases af:c=n
   all_goals
    clear f
    go_wp2_with (first
     |(at_builtin;(refine Aq _ rfl (.tmp 33) (.tmp 39) 81 81 rfl w2.heap.size 177 U _ 2 32 FZ hi O P Q Di (by decide) (.slice A7 (n+1) c7) (n+1) (Oj i) rfl OW _ (m-n) (Oj (E.drop n)) rfl (by first | exact S3 | exact S4 af _) ad ae o.be.size ?_);intro v9 w9 p C _ aa;have s:=IG.VY o M (by rw[r.out];exact p) (by rw[r.out];exact C);obtain⟨A9,c9,rfl,D⟩:=Bg p;have ag:=Ac D;have j:=x.below s.be;have M3:=Ac s;have y:=j.has.cell 0;have W:=j.has.lt;have X:=j.has.frozen;clear p C aa s j D))
    go_end0
    refine⟨rfl, ?_⟩;rw[J.out]
    have t:(i++E.drop n).length=n+1+(m-n):=by rw[A8,r.out,M.out]
    have fin:=fK B2 H x (L:=i++E.drop n) (A9:=A9) (c9:=c9) (by rw[t];exact M3) (by rw[t];exact ag);rw[t]at fin;obtain⟨f1,A',c',f2,f3⟩:=fin;exact⟨f1,A',⟨c',f2⟩,f3⟩
 | true =>
   have ax:n+1<=m:=by have:=z6 rfl;omega
   have J:=Ac (FM1 (k:=key) (v:=v) (E:=E) (n:=n) (d:=1) HN (by rw[ac.out];rfl))
   have f:(E.take n++[(key,v)]).length=n+1:=by rw[A8,z.out];rfl
   obtain⟨i,B⟩:∃ l,E.take n++[(key,v)]=l:=⟨_,rfl⟩;rw[B]at o f J ⊢;have S3:=Ac (Z.rd.gB (e:=n+1) (n:=m-(n+1)) (c:=c-(n+1)) (by rw[g.out];omega) FZ);rw[f];clear B;have ad:=Ac (show n+1+(m-(n+1))<=maxLen by unfold maxLen;omega);have ae:=Ac (show(n+1+(m-(n+1)))*32<=140737488355328 by omega);have r:=Ac f
   have z7:((n+1:Nat):Int)<=(c:Int):=by omega
   have z8:((n+1:Nat):Int)<=(m:Int):=by omega
   have M:=Ac (show(E.drop (n+1)).length=m-(n+1)by rw[DJ,g.out]);have OW:=Ac (show G.ownsRow w2.heap.size 177 2 (.slice A7 (n+1) c7) (n+1) (Oj i)from by have q:=o.ow;rw[f]at q;exact q)
   have S4:=Ac (λ(h:c=n+1) (N:Nat)=>show Src Tryz.prog 2 81 (.slice A (m-(n+1)) N) (m-(n+1)) (Oj (E.drop (n+1))) G from by
    have q:=Z.rd.V7 (n:=0) (c:=N) (BR _) FZ;rw[show m-(n+1)=0 by omega,IY (by rw[g.out];omega)]
    exact q)
   by_cases af:c=n+1
   all_goals
    clear f
    go_wp2_with (first
     |(at_builtin;(refine Aq _ rfl (.tmp 33) (.tmp 39) 81 81 rfl w2.heap.size 177 U _ 2 32 FZ hi O P Q Di (by decide) (.slice A7 (n+1) c7) (n+1) (Oj i) rfl OW _ (m-(n+1)) (Oj (E.drop (n+1))) rfl (by first | exact S3 | exact S4 af _) ad ae o.be.size ?_);intro v9 w9 p C _ aa;have s:=IG.VY o M (by rw[r.out];exact p) (by rw[r.out];exact C);obtain⟨A9,c9,rfl,D⟩:=Bg p;have ag:=Ac D;have j:=x.below s.be;have M3:=Ac s;have y:=j.has.cell 0;have W:=j.has.lt;have X:=j.has.frozen;clear p C aa s j D))
    go_end0
    refine⟨rfl, ?_⟩;rw[J.out]
    have t:(i++E.drop (n+1)).length=n+1+(m-(n+1)):=by rw[A8,r.out,M.out]
    have fin:=fK B2 H x (L:=i++E.drop (n+1)) (A9:=A9) (c9:=c9) (by rw[t];exact M3) (by rw[t];exact ag);rw[t]at fin;rw[show n+1+(m-(n+1))=m by omega]at fin;obtain⟨f1,A',c',f2,f3⟩:=fin;exact⟨f1,A',⟨c',f2⟩,f3⟩
def NK1{k:Ky}{E:List En}{n:Nat}(a:Fh k E=n)(hi:Em k E=true):JP k E=E.take n++E.drop (n+1):=by
 unfold JP;rw[AC hi,a]
def Tm{w w':World}(hb:Below w.heap.size w w')(b:Option Nat):w.grownBy w' b:=⟨hb.os,hb.tape,hb.output,hb.size,λk a _=>hb.block k a⟩
def AX1 {w:World} {mb c:Nat} {A:Option Addr} {E:List En} (key:Ky) (h:Mp w mb E A c) (F:E.length<=60000) :
 Calls Tryz.prog 105 #[.pointer (some ⟨mb,0,none⟩),.string (AQ key)] w (λe w'=>e = .returned (.bool (Em key E))/\w.grownBy w' (some mb)/\∃ A' c',Mp w' mb (JP key E) A' c'/\((∀ a,A'=some a->w.heap.size<=a.block)\/A'=A)):=by
 have d:=Ac (jK key h F);have H:=Ac h;obtain⟨K,G⟩:∃ v,AQ key=v:=⟨_,rfl⟩;rw[G]at d ⊢;have B:=aA key E;obtain⟨n,f⟩:∃ n,Fh key E=n:=⟨_,rfl⟩;rw[f]at d B;obtain⟨m,g⟩:∃ m,E.length=m:=⟨_,rfl⟩;have i:=Ac g;rw[g]at B
 cases b:Em key E with
 | false =>
   rw[b]at d;have r:=Ac (show JP key E=E from by unfold JP;rw[b];rfl);clear h F G f g b;go_enter Tryz.func105,Tryz.ntmps105
   go_wp2_with (first
    |(go_at_call 179;(with_reducible refine d.out.mono ?_);rintro en w2 ⟨rfl,hb2⟩;have s:=Ac hb2;clear hb2))
   go_ret;exact⟨rfl,Tm s _,A,c,by rw[r.out];exact H.below s,.inr rfl⟩
 | true =>
   rw[b]at d;have hl:=jP b;rw[f,g]at hl;have r:=Ac (NK1 f b);have Q:=h.cp;rw[g]at Q
   have z1:(0:Int)<=(n:Int):=by omega
   have z2:(n:Int)<=(m:Int):=by omega
   have z3:(m:Int)<=60000:=by omega
   have z4:n<=c:=by omega
   have z5:m<=c:=Q;obtain⟨i0,hi,R,S,T⟩:=IP Qu;clear h F G f g b;go_enter Tryz.func105,Tryz.ntmps105
   go_upto_region 4 with(first
    |(go_at_call 179;(with_reducible refine d.out.mono ?_);rintro en w2 ⟨rfl,hb2⟩;have s:=Ac hb2;have j:=H.below hb2;have t:=Ac j;have k:=j.has.cell 0;rw[i.out]at k;have I:=j.has.lt;have J:=j.has.frozen;clear hb2 j))
   have ad:=Ac (show 0+n<=maxLen by unfold maxLen;omega);have ae:=Ac (show(0+n)*32<=140737488355328 by omega)
   have U:n<=E.length:=by rw[i.out];exact B
   have V:(E.take n).length=n:=by rw[CU];omega
   have S1:=Ac ((t.rd.V7 (n:=n) (c:=c) U FZ));have C:=Ac V;clear U V
   go_upto_region 5 with(first
    |(at_builtin;(refine Aq _ rfl (.tmp 15) (.tmp 21) 81 81 rfl w2.heap.size 177 i0 _ 2 32 FZ hi R S T Di (by decide) (.slice none 0 0) 0 [] rfl (JJ _ _ _ _) (.slice A n c) n (Oj (E.take n)) rfl S1 ad ae (AY _) ?_);intro v5 M P W _ ab;have O5:=Ac P;have X:=Ac W;clear P W ab))
   have m2:IG w2 M v5 (E.take n):=by
    have q:=IG.VY (acc:=[]) ⟨AU _ _,JJ _ _ _ _⟩ C O5 X;exact q
   have o:=t.below m2.be;have u:=Ac m2;have H7:=Ac o;clear k I J;have k:=o.has.cell 0;rw[i.out]at k;have I:=o.has.lt;have J:=o.has.frozen;obtain⟨A7,c7,rfl,_⟩:=Bg m2.ow;clear m2 o O5 X S1
   have aj:n+1<=m:=by omega
   have p:(E.take n).length=n:=C.out;obtain⟨x,Y⟩:∃ l,E.take n=l:=⟨_,rfl⟩;rw[Y]at u p r ⊢;have S3:=Ac (H7.rd.gB (e:=n+1) (n:=m-(n+1)) (c:=c-(n+1)) (by rw[i.out];omega) FZ);rw[p];clear Y C;have af:=Ac (show n+(m-(n+1))<=maxLen by unfold maxLen;omega);have ag:=Ac (show(n+(m-(n+1)))*32<=140737488355328 by omega);have D:=Ac p
   have z7:((n+1:Nat):Int)<=(c:Int):=by omega
   have z8:((n+1:Nat):Int)<=(m:Int):=by omega
   have DL:=Ac (show(E.drop (n+1)).length=m-(n+1)by rw[DJ,i.out]);have OW:=Ac (show M.ownsRow w2.heap.size 177 2 (.slice A7 n c7) n (Oj x)from by have q:=u.ow;rw[p]at q;exact q)
   have S4:=Ac (λ(h:c=n+1) (cc:Nat)=>show Src Tryz.prog 2 81 (.slice A (m-(n+1)) cc) (m-(n+1)) (Oj (E.drop (n+1))) M from by
    have q:=H7.rd.V7 (n:=0) (c:=cc) (BR _) FZ;rw[show m-(n+1)=0 by omega,IY (by rw[i.out];omega)]
    exact q)
   by_cases ah:c=n+1
   all_goals
    clear p
    go_wp2_with (first
     |(at_builtin;(refine Aq _ rfl (.tmp 24) (.tmp 31) 81 81 rfl w2.heap.size 177 i0 _ 2 32 FZ hi R S T Di (by decide) (.slice A7 n c7) n (Oj x) rfl OW _ (m-(n+1)) (Oj (E.drop (n+1))) rfl (by first | exact S3 | exact S4 ah _) af ag u.be.size ?_);intro v9 w9 z Z _ ac;have N:=IG.VY u DL (by rw[D.out];exact z) (by rw[D.out];exact Z);obtain⟨A9,c9,rfl,aa⟩:=Bg z;have ai:=Ac aa;have y:=t.below N.be;have M3:=Ac N;have k:=y.has.cell 0;have I:=y.has.lt;have J:=y.has.frozen;clear z Z ac N y aa))
    go_ret;refine⟨rfl, ?_⟩;rw[r.out]
    have O:(x++E.drop (n+1)).length=n+(m-(n+1)):=by rw[A8,D.out,DL.out]
    have fin:=fK s H t (L:=x++E.drop (n+1)) (A9:=A9) (c9:=c9) (by rw[O];exact M3) (by rw[O];exact ai);rw[O]at fin;obtain⟨f1,A',c',f2,f3⟩:=fin;exact⟨f1,A',⟨c',f2⟩,.inl f3⟩
def TV0 : Tryz.prog.underlying 177 = some (.struct (Tryz.prog.fieldsOf 177)):=by kernel_rfl
def ET1 : Tryz.prog.stoodInHeld 177 = false:=by kernel_rfl
def UJ0(a b c d:ByteArray)(w:World):(Op.equalIn 10000 177 (.agg #[.string a,.string b]) (.agg #[.string c,.string d])).run Tryz.prog w = .ok (a.toList == c.toList && b.toList == d.toList) w:=by
 rw[run_equalIn_agg w _ _ _ _ TV0 ET1];simp[Program.fieldsOf,Tryz.underlying177,Op.eqFields,go_sem];by_cases e:a.toList=c.toList
 ·by_cases f:b.toList=d.toList
  ·rw[AC e,AC f,e,f];simp
  ·rw[AC e,AO f,FK.2 f];simp
 ·rw[AO e,FK.2 e];simp
def PL1(x y:En):((AQ x.1).toList == (AQ y.1).toList && (AQ x.2).toList == (AQ y.2).toList)=decide (x=y):=by
 rw[EL,EL,EL,EL,Cb,Cb,Cb,Cb];by_cases h:x=y
 ·rw[EW h,h];simp
 ·rw [EY h];by_cases a:x.1=y.1
  ·have b:x.2≠y.2:=λe=>h (Prod.ext a e);rw[FK.2 b,Bool.and_false]
  ·rw[FK.2 a,Bool.false_and]
def YP0 : Tryz.prog.eqGuardType Tryz.prog.depth 177 = false:=by kernel_rfl
def Wy {w:World} {A B:Option Addr} {c d n m:Nat} {E F:List En} (u:FV w A E) (hb:FV w B F) (k:E.length=n) (z:F.length=m) (a:n<=1000000) (hF:m<=1000000) :
 Calls Tryz.prog 37 #[.slice A n c,.slice B m d] w (λe w'=>e = .returned (.bool (decide (E=F)))/\Below w.heap.size w w'):=by
 have HA:=Ac u;have HB:=Ac hb;have C:=Ac k;have D:=Ac z;by_cases hl:n=m
 ·subst hl;clear u hb k z hF;go_enter Tryz.func37,Tryz.ntmps37
  go_wp2_with fail
  go_loopg [5,13] n (λgg v5 Z wr=>∃ i:Nat,i+gg=n/\Z = .int .i64 i/\Below w.heap.size w wr/\∀ j,j<i->E[j]? = F[j]?)
  case atStart=>exact⟨0,by omega,rfl,AU _ _,λj l=>absurd l (OM _)⟩
  case round =>
   obtain⟨i,q,rfl,g,h⟩:=hrel;have Q:=Ac q;have aa:=Ac h;have G:=Ac g;by_cases hi:i<n
   ·have ab:(i:Int)<(n:Int):=by omega
    obtain⟨b,rfl,gb,R⟩:=(HA.below g) (by rw[C.out];omega)
    obtain⟨b2,rfl,ad,J⟩:=(HB.below g) (by rw[D.out];omega)
    have r:i<E.length:=by rw[C.out];exact hi
    have s:i<F.length:=by rw[D.out];exact hi
    obtain⟨S,T⟩:=R i E[i] (DK r);obtain⟨U,V⟩:=J i F[i] (DK s);obtain⟨x,H⟩:∃ x,E[i]=x:=⟨_,rfl⟩;obtain⟨y,I⟩:∃ y,F[i]=y:=⟨_,rfl⟩
    have K:E[i]? = some x:=by rw[DK r,H]
    have L:F[i]? = some y:=by rw[DK s,I]
    rw[H]at S T;rw[I]at U V;have o:=Ac (AV K L);have a:=λW=>UJ0 (AQ x.1) (AQ x.2) (AQ y.1) (AQ y.2) W;simp only[PL1]at a;have hG:=YP0;obtain⟨X1,M⟩:∃ v,AQ x.1=v:=⟨_,rfl⟩;obtain⟨X2,N⟩:∃ v,AQ x.2=v:=⟨_,rfl⟩;obtain⟨Y1,O⟩:∃ v,AQ y.1=v:=⟨_,rfl⟩;obtain⟨Y2,P⟩:∃ v,AQ y.2=v:=⟨_,rfl⟩;rw[M]at S a;rw[N]at T a;rw[O]at U a;rw[P]at V a;clear R J q h g H I K L M N O P r s;by_cases f:x=y
    ·rw [EW f] at a;have t:=Ac f;clear f
     go_wp2_with fail
     go_quiet (fail)
     go_wp2_with fail
     go_roundg (n-(i+1))
     case rel =>
      refine⟨i+1,by have:=Q.out;omega,by simp,PR G _,λj l=>?_⟩;by_cases ac:j<i
      ·exact aa j ac
      ·obtain rfl:j=i:=by omega
       rw[o.1,o.2,t.out]
     case measure=>have:=Q.out;omega
    ·rw [EY f] at a;have t:=Ac f;clear f
     go_wp2_with fail
     go_quiet (fail)
     go_wp2_with fail
     go_ret
     have p:decide (E=F)=false:=EY λe=>t (by
      have X:=o.1;rw[e,o.2]at X
      exact(CV X).symm)
     exact⟨by rw[p];rfl,PR G _⟩
   ·have ae:i=n:=by omega
    have ab:¬(i:Int)<(n:Int):=by omega
    have Y:decide (E=F)=true:=EW (JC λj=>by
     by_cases l:j<i
     ·exact h j l
     ·rw[MH (by rw[C.out];omega),MH (by rw[D.out];omega)])
    have E1:=Ac Y;clear q h g Y
    go_wp2_with fail
    go_ret;exact⟨by rw[E1.out];rfl,G⟩
 ·have af:((n:Int) != (m:Int))=true:=by rw [OE];omega
  have p:decide (E=F)=false:=EY λe=>by rw[e]at k;omega
  rw[p];clear u hb k z p;go_enter Tryz.func37,Tryz.ntmps37
  go_wp2_with fail
  go_ret;exact⟨rfl,AU _ _⟩
def LJ1{w:World}{g:Nat}{t:TypeId}{a:Array Value}{B n cap b:Nat}(h:Has w g t a)(e:B<=g)(c:n<=cap)(f:cap<=maxLen)(d:a.size=cap*b):w.ownsRow B t b (.slice (some ⟨g,0,none⟩) n cap) n (a.toList.take (n*b)) :=
 ⟨by rw[CU,JX,d];exact MC (Aa2 _ c),.inr ⟨g,cap,a,rfl,e,h,c,f,d,rfl⟩⟩
def KO1(w:World)(v:Value)(r:Bool)(a:Ending)(w':World):Prop:=a = .returned (.bool r)/\w.grownBy w' v.ownBlock
def qM {w:World} {h c m:Nat} {B:Option Addr} {v:Value} {E F:List En} (j:w.ownsRow h 177 2 v E.length (Oj E)) (u:h<=w.heap.size) (hb:FV w B F) (y:F.length=m) (T:E.length<=1000000) (hF:m<=1000000) :
 Calls Tryz.prog 106 #[v,.slice B m c] w (KO1 w v (decide (E=F))):=by
 obtain⟨U,hi,L,M,N⟩:=IP Qu;have z:=Ac (show E.length+2<=maxLen by unfold maxLen;omega);have A:=Ac (show(E.length+2)*32<=140737488355328 by omega);have O:=Ac u;obtain⟨V,p,rfl,_⟩:=Bg j;have s:=Ac (Wy (c:=p) (d:=c) (FV.Ed j rfl) hb rfl y T hF);obtain⟨r,D⟩:∃ r,decide (E=F)=r:=⟨_,rfl⟩;rw[D]at s ⊢;obtain⟨n,G⟩:∃ n,E.length=n:=⟨_,rfl⟩;rw[G]at j s T z A ⊢
 have af:(n:Int)<=1000000:=by omega
 rcases j.2 with⟨q,h2⟩ |⟨g,cap,P,q,aa,H,ab,Q,R,_⟩
 ·obtain ⟨rfl,rfl,rfl⟩:V=none/\n=0/\p=0:=by injection q with a b c;exact ⟨a,h2,c⟩
  have I:=Ac (JJ w h 177 2);clear j hb y D G u;go_enter Tryz.func106,Tryz.ntmps106
  go_wp2_with (first
   |(go_at_call 37;(with_reducible refine s.out.mono ?_);rintro e w1 ⟨rfl,l⟩;have i:=Ac l;clear l))
  go_loopw [6,12] (λ_ o wr=>o = .int .i64 0/\wr=w1) (λ_ _ _=>0)
  case atStart=>exact⟨rfl,rfl⟩
  case round =>
   obtain⟨rfl,rfl⟩:=hrel
   go_wp2_with ((at_builtin;refine Aq _ rfl (.tmp 20) (.tmp 23) 81 81 rfl (h) 177 U _ 2 32 FZ hi L M N Di (by decide) (_) (0) (_) rfl ((own_below I i).alloc _) (.slice (some ⟨_,0,none⟩) 2 2) (2) ([.string ⟨#[115,112,111,105,108,116]⟩,.string ⟨#[]⟩,.string ⟨#[115,112,111,105,108,116]⟩,.string ⟨#[]⟩]) rfl (IW _ FZ ⟨_,0,none⟩ 2 2 ([.string ⟨#[115,112,111,105,108,116]⟩,.string ⟨#[]⟩,.string ⟨#[115,112,111,105,108,116]⟩,.string ⟨#[]⟩]) rfl (JQ (I8 _ _)) (by simp[Value.oneCell'])) (z) (A) (BN O (BN i.size (by simp))) ?_;intro v1 w2 Y x _ Z))
   go_ret;exact⟨rfl,grownBy_trans (Tm i _) (grownBy_trans (World.grownBy_alloc _ _ _) x)⟩
 ·obtain ⟨rfl,rfl⟩:V=some ⟨g,0,none⟩/\p=cap:=by injection q with a b c;exact ⟨a,c⟩
  have f:=Ac (show Has w g 177 P from H);have S:=Ac R;have ac:=Ac Q;have ad:g<w.heap.size:=(LK.1 H).1;clear j hb y D G u q H R Q;go_enter Tryz.func106,Tryz.ntmps106
  go_wp2_with (first
   |(go_at_call 37;(with_reducible refine s.out.mono ?_);rintro e w1 ⟨rfl,l⟩;have i:=Ac l;clear l))
  go_loopw [6,12] (λ_ o wr=>∃(k:Nat) (C:Array Value),k<=n/\o = .int .i64 k/\Has wr g 177 C/\C.size=p*2/\w.grownBy wr (some g)) (λ_ o _=>n-(intOf o).toNat)
  case atStart=>exact⟨0,P,BR _,rfl,(i.block g ad).trans f,S,Tm i _⟩
  case round =>
   clear f S;obtain⟨k,C,hk,rfl,J,W,X⟩:=hrel;have f:=Ac J;have t:=Ac W;have K:=Ac X;have ae:=J.lt;clear J W X;by_cases ag:k<n
   ·have kc:k<p:=by omega
    obtain⟨a0,h0⟩:∃ a,wr.cell? ⟨g,k*2,none⟩=some a:=⟨_,by rw[f.cell];exact Array.getElem?_eq_getElem (by rw[t.out];omega)⟩
    obtain⟨a1,q⟩:∃ a,wr.cell? ⟨g,k*2+1,none⟩=some a:=⟨_,by rw[f.cell];exact Array.getElem?_eq_getElem (by rw[t.out];omega)⟩
    have f0:=f.frozen
    go_wp2_with fail
    go_roundw
    case rel=>exact⟨k+1,_,by omega,by simp,(f.set _ _).set _ _,by simp[t.out],grownBy_trans K (grownBy_trans (grownBy_setCell _ _) (grownBy_setCell _ _))⟩
    case measure=>simp[intOf];omega
   ·obtain rfl:k=n:=by omega
    have I:=Ac (LJ1 (B:=h) f aa ab ac t);have HB:=Ac K.size
    go_wp2_with ((at_builtin;refine Aq _ rfl (.tmp 20) (.tmp 23) 81 81 rfl (h) 177 U _ 2 32 FZ hi L M N Di (by decide) (_) (k) (_) rfl (I.alloc _) (.slice (some ⟨_,0,none⟩) 2 2) (2) ([.string ⟨#[115,112,111,105,108,116]⟩,.string ⟨#[]⟩,.string ⟨#[115,112,111,105,108,116]⟩,.string ⟨#[]⟩]) rfl (IW _ FZ ⟨_,0,none⟩ 2 2 ([.string ⟨#[115,112,111,105,108,116]⟩,.string ⟨#[]⟩,.string ⟨#[115,112,111,105,108,116]⟩,.string ⟨#[]⟩]) rfl (JQ (I8 _ _)) (by simp[Value.oneCell'])) (z) (A) (BN O (BN HB (by simp))) ?_;intro v1 w2 Y x _ Z))
    go_ret;exact⟨rfl,grownBy_trans K (grownBy_trans (World.grownBy_alloc _ _ _) x)⟩
end Go.Proofs.YtjihboddejaelaaGreat
namespace Go.Proofs.YtjihboddejaelaaGreat
open Go.RowKit
def IJ (R:Nat->List Nat->Prop):List Nat->List (List Nat)->Prop
 | [],[]=>True
 | a :: b,l :: ls=>R a l/\IJ R b ls
 | _,_=>False
def IJ.split {R:Nat->List Nat->Prop}:∀ {a b:List Nat} {c:List (List Nat)},IJ R (a++b) c->∃ d e,c=d++e/\IJ R a d/\IJ R b e
 | [],b,c,h=>⟨[],c,rfl,trivial,h⟩
 | x :: a,b,[],h=>h.elim
 | x :: a,b,l :: c,h=>by
   obtain⟨d,e,rfl,f,g⟩:=IJ.split h.2;exact⟨l :: d,e,rfl,⟨h.1,f⟩,g⟩
def IJ.mono {R R':Nat->List Nat->Prop}:∀ {a:List Nat} {b:List (List Nat)},IJ R a b->(∀ n,∀ l∈b,R n l->R' n l)->IJ R' a b
 | [],[],_,_=>trivial
 | [],_ :: _,h,_=>h.elim
 | _ :: _,[],h,_=>h.elim
 | x :: a,l :: b,h,hr=>⟨hr x l AZ h.1,IJ.mono h.2 λn l c=>hr n l (BF _ c)⟩
def J4 (G:Nat->Pg):Nat->Nat->List Nat->Prop
 | 0,n,l=>∃ c a E P,G n=(1,c,a.map Af)/\Kz G a E P/\(∀ i∈a,RQ i)/\(∀ ps∈P,ps.length<=3)/\l=P.flatten++[n]
 | d+1,n,l=>∃ a b,G n=(2,Gi (a.headD ⟨[],[]⟩).r,(a.drop 1).map Af)/\a≠[]/\(∀ i∈a,CO i<=244/\i.k.length<=200/\i.r.length=4)/\IJ (J4 G d) (a.map λi=>Gi i.r) b/\l=b.flatten++[n]
def J4.congr {G G':Nat->Pg}:∀ {d n:Nat} {l:List Nat},J4 G d n l->(∀ p∈l,G' p=G p)->J4 G' d n l
 | 0,n,l,⟨lk,its,E,P,h1,h2,h3,h4,h5⟩,hc=>⟨lk,its,E,P,(hc n (by rw[h5];simp)).trans h1,h2.congr λp a=>hc p (by rw[h5];exact BL _ a),h3,h4,h5⟩
 | d+1,n,l,⟨its,Ls,h1,h2,h3,h4,h5⟩,hc=>⟨its,Ls,(hc n (by rw[h5];simp)).trans h1,h2,h3,h4.mono λm c b e=>J4.congr e λp a=>hc p (by rw[h5];exact BL _ (List.mem_flatten.2 ⟨c,b,a⟩)),h5⟩
section
variable {G:Nat->Pg} {root:Nat}
def oV:∀ {L:List Nd} {m:Nat} {E:List En} {P:List (List Nat)},KN G 0 L m->(∀ x∈L,∀ i∈x.its,RQ i)->(∀ x∈L,x.n≠0)->(∀ ps∈P,ps.length<=3)->Kz G (L.flatMap (·.its)) E P->∃ a,IJ (J4 G 0) (L.map (·.n)) a/\a.flatten.Perm (L.map (·.n)++P.flatten)
 | [],m,E,P,_,_,_,_,he=>by
   have e:=he.len.2;have:P=[]:=TE.1 e;subst this;exact⟨[],trivial,MZ _⟩
 | x :: L,m,E,P,hp,hk,h0,h3,he=>by
   rw[IK]at he;obtain⟨E1,E2,d,k,rfl,rfl,f,g⟩:=he.split;obtain⟨a,h,j⟩:=oV hp.2 (λy c=>hk y (BF _ c)) (λy c=>h0 y (BF _ c)) (λps b=>h3 ps (BC _ b)) g;refine⟨(d.flatten++[x.n]) :: a,⟨⟨_,x.its,E1,d,hp.1 (h0 x AZ),f,hk x AZ,λps b=>h3 ps (BL _ b),rfl⟩,h⟩, ?_⟩;refine JW.2 λy=>?_;have:=j.count_eq y;simp only[dG,PZ,DW,JD,RF,YI]at this ⊢;omega
def DG1 {d:Nat}:∀ {L:List Nd} {c:List (List Nat)},(∀ x∈L,G x.n=FX x/\x.its≠[]/\∀ i∈x.its,CO i<=244/\i.k.length<=200/\i.r.length=4)->IJ (J4 G d) ((L.flatMap (·.its)).map λi=>Gi i.r) c->∃ e,IJ (J4 G (d+1)) (L.map (·.n)) e/\e.flatten.Perm (L.map (·.n)++c.flatten)
 | [],c,_,h=>by
   cases c with
   | nil=>exact⟨[],trivial,MZ _⟩
   | cons a b=>exact h.elim
 | x :: L,c,hx,h=>by
   rw[IK,D9]at h;obtain⟨f,t,rfl,g,j⟩:=h.split;obtain⟨e,l,m⟩:=DG1 (λy o=>hx y (BF _ o)) j;obtain⟨p,q,s⟩:=hx x AZ;refine⟨(f.flatten++[x.n]) :: e,⟨⟨x.its,f,p,q,s,g,rfl⟩,l⟩, ?_⟩;refine JW.2 λy=>?_;have:=m.count_eq y;simp only[dG,PZ,DW,JD,RF,YI]at this ⊢;omega
def FD1:∀ {Ds:List (List Nd)} {L:List Nd} {E:List En} {P:List (List Nat)},BP G 0 root L Ds->(∀ p∈Gl L Ds,p≠0/\p<65536)->(∀ ps∈P,ps.length<=3)->Kz G (Jd L Ds) E P->∃ b,IJ (J4 G Ds.length) (L.map (·.n)) b/\b.flatten.Perm (Gl L Ds++P.flatten)
 | [],L,E,P,h,h0,h3,he=>oV (Jw.pages h) (Jw.keys h) (λx a=>(h0 x.n (F6 a)).1) h3 he
 | D :: r,L,E,P,h,h0,h3,he=>by
   obtain⟨b,d,f⟩:=FD1 (Ds:=r) h.2 (λp g=>h0 p (BC _ g)) h3 he
   have j:D.map (·.n)=(L.flatMap (·.its)).map λi=>Gi i.r:=by
    rw[h.1.its,YB];exact YC λy k=>(Ha (by have:=(h0 y.n (BC _ (Cm k r))).2;omega)).symm
   rw[j]at d
   obtain⟨c,l,m⟩:=DG1 (L:=L) (λx a=>⟨h.1.pages x a (h0 x.n (BL _ (F6 a))).1,λe=>by have:=h.1.head x a;rw[e]at this;simp at this,λi hi=>by
    obtain⟨o,q,s⟩:=BP.sz (Ds:=D :: r) h a hi
    exact⟨o,q,s (by simp)⟩⟩) d
   refine⟨c,l, ?_⟩;refine JW.2 λy=>?_;have t:=f.count_eq y;have u:=m.count_eq y;show List.count y c.flatten=List.count y ((L.map (·.n)++Gl D r)++P.flatten);simp only[JD]at t u ⊢;omega
end
def Vh(S:St)(a b:List Nat):Bl S (a++b)=Bl (Bl S a) b:=by unfold Bl;exact dF
def jT:∀ {l:List Nat} {S:St} {p:Nat},p≠0->p∉l->(Bl S l).G p=S.G p
 | [],_,_,_,_=>rfl
 | x :: l,S,p,h0,hp=>by
   have:(Bl (S.free x) l).G p=(S.free x).G p:=jT h0 λa=>hp (BF _ a);exact this.trans ((Be h0).trans (Be λe=>hp (by rw[e];exact AZ)))
def Tv:∀ {l:List Nat} {S:St} {p:Nat},p∈(Bl S l).fr->p∈l\/p∈S.fr
 | [],_,_,h=>.inr h
 | x :: l,S,p,h=>by
   rcases Tv (l:=l) (S:=S.free x) h with h | h
   ·exact .inl (BF _ h)
   ·rcases BI.1 h with h | h
    ·exact .inl (by rw[h];exact AZ)
    ·exact .inr h
def QF:List (Nat×Ky)->Ky->Ky
 | [],hi=>hi
 | z :: _,_=>z.2
def NI1(a b:List (Nat×Ky))(hi:Ky):QF (a++b) hi=QF a (QF b hi):=by cases a <;> rfl
def JM(i:It):Nat×Ky:=(Gi i.r,i.k)
def nZ(x:Nd):Nat×Ky:=(x.n,x.lo)
section
variable {G:Nat->Pg} {root q:Nat} {rt:Bool}
def gV:List Nd->List (List Nd)->List Nd
 | L,[]=>L
 | _,D :: r=>gV D r
def sK:∀ (L:List Nd) (Ds:List (List Nd)),(gV L Ds).flatMap (·.its)=Jd L Ds
 | L,[]=>rfl
 | _,D :: r=>sK D r
def uN:∀ {L:List Nd},Yy L->(L.flatMap (·.its)).Pairwise λa b=>ltK a.k b.k
 | [],_=>nO
 | x :: L,h=>by
   obtain⟨f,c,hb⟩:=Fq.1 h;rw[IK];refine XZ.2 ⟨f.1,uN c,λa g b hb2=>?_⟩;obtain⟨y,d,e⟩:=MG.1 hb2;exact Ho ((hb y d).2 a g) ((c.2 y d).2 b e)
def rD:∀ {Ds:List (List Nd)} {L:List Nd},BP G 0 root L Ds->Yy (gV L Ds)
 | [],_,h=>Jw.ord h
 | D :: r,_,h=>rD (Ds:=r) (L:=D) h.2
end
def Ru (R:Nat->Ky->Ky->List En×Nat->Prop) (hi:Ky):List (Nat×Ky)->List (List En×Nat)->Prop
 | [],[]=>True
 | z :: zs,g :: gs=>R z.1 z.2 (QF zs hi) g/\Ru R hi zs gs
 | _,_=>False
section
variable {R:Nat->Ky->Ky->List En×Nat->Prop} {hi:Ky}
def Ru.split:∀ {a b:List (Nat×Ky)} {c:List (List En×Nat)},Ru R hi (a++b) c->∃ d e,c=d++e/\Ru R (QF b hi) a d/\Ru R hi b e
 | [],b,c,h=>⟨[],c,rfl,trivial,h⟩
 | z :: a,b,[],h=>h.elim
 | z :: a,b,g :: c,h=>by
   obtain⟨d,e,rfl,f,i⟩:=Ru.split h.2;refine⟨g :: d,e,rfl,⟨?_,f⟩,i⟩;rw[<- NI1];exact h.1
def Ru.len:∀ {a:List (Nat×Ky)} {b:List (List En×Nat)},Ru R hi a b->b.length=a.length
 | [],[],_=>rfl
 | [],_ :: _,h=>h.elim
 | _ :: _,[],h=>h.elim
 | _ :: a,_ :: b,h=>by rw[DF,DF,Ru.len h.2]
end
def Ej:List (List En×Nat)->List En×Nat
 | []=>([],0)
 | g :: gs=>(g.1++(Ej gs).1,g.2+(Ej gs).2)
def Uo(a b:List (List En×Nat)):Ej (a++b)=((Ej a).1++(Ej b).1,(Ej a).2+(Ej b).2):=by
 induction a with
 | nil=>simp[Ej]
 | cons x a c=>rw[F7,Ej,c,Ej];simp[TA]
def FY (G:Nat->Pg) (q:Nat):Nat->Nat->Ky->Ky->List En×Nat->Prop
 | 0,n,lo,hi,g=>∃(f:Nat) (c:List It) (P:List (List Nat)),G n=(1,f,c.map Af)/\Kz G c g.1 P/\(∀ i∈c,RQ i/\EU lo i.k/\(hi=[]\/ltK i.k hi))/\(c.Pairwise λa b=>ltK a.k b.k)/\(∀ ps∈P,∀ x∈ps,0<x/\x<q)/\(0<n/\n<q)/\g.2=1+P.flatten.length
 | d+1,n,lo,hi,g=>∃(c:List It) (e:List (List En×Nat)),G n=(2,Gi (c.headD ⟨[],[]⟩).r,(c.drop 1).map Af)/\c≠[]/\(c.headD ⟨[],[]⟩).k=lo/\(∀ i∈c,CO i<=244/\i.k.length<=200/\i.r.length=4)/\(∀ i∈c.drop 1,EU lo i.k/\(hi=[]\/ltK i.k hi))/\(c.Pairwise λa b=>ltK a.k b.k)/\(0<n/\n<q)/\Ru (FY G q d) hi (c.map JM) e/\g=((Ej e).1,1+(Ej e).2)
section
variable {G:Nat->Pg} {root q:Nat}
def rC:∀ {L:List Nd} {m:Nat} {E:List En} {P:List (List Nat)},KN G 0 L m->Yy L->(∀ x∈L,∀ i∈x.its,RQ i)->(∀ x∈L,0<x.n/\x.n<q)->(∀ ps∈P,∀ x∈ps,0<x/\x<q)->Kz G (L.flatMap (·.its)) E P ->
 ∃ a,Ru (FY G q 0) [] (L.map nZ) a/\Ej a=(E,L.length+P.flatten.length)
 | [],m,E,P,_,_,_,_,_,he=>by
   obtain⟨l1,l2⟩:=he.len;have f:P=[]:=TE.1 l2;have g:E=[]:=TE.1 l1;subst f g;exact⟨[],trivial,rfl⟩
 | x :: L,m,E,P,hp,ho,hk,h0,h3,he=>by
   rw[IK]at he;obtain⟨E1,E2,d,r,rfl,rfl,h,j⟩:=he.split;obtain⟨e,k,hb⟩:=Fq.1 ho;obtain⟨a,l,o⟩:=rC hp.2 k (λy c=>hk y (BF _ c)) (λy c=>h0 y (BF _ c)) (λps b=>h3 ps (BC _ b)) j;have p:=h0 x AZ;refine⟨(E1,1+d.flatten.length) :: a,⟨⟨_,x.its,d,hp.1 (by omega),h,λi hi=>⟨hk x AZ i hi,e.2 i hi, ?_⟩,e.1,λps b=>h3 ps (BL _ b),p,rfl⟩,l⟩, ?_⟩
   ·cases L with
    | nil=>exact .inl rfl
    | cons y L=>exact .inr ((hb y AZ).2 i hi)
   ·rw [Ej,o];refine congr rfl ?_;simp only[DF,PZ,A8];omega
def FX1 {d:Nat}:∀ {L:List Nd} {c:List (List En×Nat)},Yy L->(∀ x∈L,G x.n=FX x/\x.its.head?.map (·.k)=some x.lo/\(∀ i∈x.its,CO i<=244/\i.k.length<=200/\i.r.length=4))->(∀ x∈L,0<x.n/\x.n<q) ->
 Ru (FY G q d) [] ((L.flatMap (·.its)).map JM) c->∃ j,Ru (FY G q (d+1)) [] (L.map nZ) j/\Ej j=((Ej c).1,L.length+(Ej c).2)
 | [],c,_,_,_,h=>by
   cases c with
   | nil=>exact⟨[],trivial,rfl⟩
   | cons a b=>exact h.elim
 | x :: L,c,ho,hx,h0,h=>by
   rw[IK,D9]at h;obtain⟨l,C,rfl,o,t⟩:=h.split;obtain⟨p,u,hb⟩:=Fq.1 ho;obtain⟨j,v,w⟩:=FX1 u (λy m=>hx y (BF _ m)) (λy m=>h0 y (BF _ m)) t;obtain⟨z,f,A⟩:=hx x AZ
   have s:QF ((L.flatMap (·.its)).map JM) []=QF (L.map nZ) []:=by
    cases L with
    | nil=>rfl
    | cons y L =>
      obtain⟨_,g,_⟩:=hx y (by simp)
      cases hi:y.its with
      | nil=>rw[hi]at g;simp at g
      | cons i r =>
        rw[hi]at g;simp only[List.head?_cons,mQ,XW]at g;rw[IK,hi];exact g
   rw[s]at o;refine⟨((Ej l).1,1+(Ej l).2) :: j,⟨⟨x.its,l,z, ?_, ?_,A,λi hi=>⟨p.2 i (JV hi), ?_⟩,p.1,h0 x AZ,o,rfl⟩,v⟩, ?_⟩
   ·intro e;rw[e]at f;simp at f
   ·cases hi:x.its with
    | nil=>rw[hi]at f;simp at f
    | cons i r =>
      rw[hi]at f
      have B:i.k=x.lo:=by simpa using f
      exact B
   ·cases L with
    | nil=>exact .inl rfl
    | cons y L=>exact .inr ((hb y AZ).2 i (JV hi))
   ·rw [Ej,w,Uo];refine congr rfl ?_;simp only[DF];omega
def zK:∀ {Ds:List (List Nd)} {L:List Nd} {E:List En} {P:List (List Nat)},BP G 0 root L Ds->(∀ p∈Gl L Ds,0<p/\p<q)->q<=65536->(∀ ps∈P,∀ x∈ps,0<x/\x<q)->Kz G (Jd L Ds) E P ->
 ∃ d,Ru (FY G q Ds.length) [] (L.map nZ) d/\Ej d=(E,(Gl L Ds).length+P.flatten.length)
 | [],L,E,P,h,h0,hq,h3,he=>by
   have e:∀ x∈L,0<x.n/\x.n<q:=λx c=>h0 x.n (F6 c);obtain⟨d,a,b⟩:=rC (Jw.pages h) (Jw.ord h) (Jw.keys h) e h3 he;refine⟨d,a,b.trans ?_⟩
   show _=(_,(L.map (·.n)).length+_)
   rw[BZ]
 | D :: r,L,E,P,h,h0,hq,h3,he=>by
   obtain⟨w,f,g⟩:=zK (Ds:=r) h.2 (λp j=>h0 p (BC _ j)) hq h3 he;have e:∀ x∈L,0<x.n/\x.n<q:=λx c=>h0 x.n (BL _ (F6 c))
   have k:D.map nZ=(L.flatMap (·.its)).map JM:=by
    rw[h.1.its,YB];refine YC λy l=>?_
    show(y.n,y.lo)=(Gi (Ba y.n),y.lo)
    rw[Ha (by have:=(h0 y.n (BC _ (Cm l r))).2;omega)]
   rw[k]at f
   have m:∀ x∈L,x.n≠0:=λx c=>by have:=e x c;omega
   obtain⟨d,o,s⟩:=FX1 (L:=L) (BP.ord (Ds:=D :: r) h) (λx c=>⟨h.1.pages x c (m x c),h.1.head x c,λi hi=>by
    obtain⟨t,u,v⟩:=BP.sz (Ds:=D :: r) h c hi
    exact⟨t,u,v (by simp)⟩⟩) e f
   refine⟨d,o,s.trans ?_⟩;rw[g]
   show(_,_)=(_,(L.map (·.n)++Gl D r).length+_)
   rw[A8,BZ];refine congr rfl ?_;show L.length+(_+_)=_;omega
end
def oP{S:St}{root:Nat}{x:Nd}{Ds:List (List Nd)}{E:List En}{P:List (List Nat)}(h:Vp S root x Ds E P)(j:S.q<=65536):FY S.G S.q Ds.length root [] [] (E,(Gl [x] Ds++P.flatten).length):=by
 obtain⟨⟨k,l,m⟩,n,u,f⟩:=h;obtain⟨c,a,b⟩:=zK (q:=S.q) k (λp o=>by have:=f p (BL _ o);exact⟨this.1,this.2.1⟩) j (λps i y r=>by have:=f y (BC _ (List.mem_flatten.2 ⟨ps,i,r⟩));exact⟨this.1,this.2.1⟩) n
 cases c with
 | nil=>exact a.elim
 | cons g c =>
   cases c with
   | cons _ _=>exact a.2.elim
   | nil =>
     have e:Ej [g]=g:=by show(g.1++[],g.2+0)=g;rw[GI];rfl
     rw[e]at b;have d:=a.1;rw[b]at d;rw[A8];have s:(nZ x).1=root:=l;have t:(nZ x).2=[]:=m;rw[s,t]at d;exact d
def lL(lo hi:Ky)(E:List En):Prop:=∀ e∈E,EU lo e.1/\(hi=[]\/ltK e.1 hi)
def ZV {R:Nat->Ky->Ky->List En×Nat->Prop} (l:∀ n lo hi g,R n lo hi g->lL lo hi g.1) {hi:Ky}:∀ {c:List (Nat×Ky)} {j:List (List En×Nat)} {lo:Ky},Ru R hi c j->(c.Pairwise λa b=>ltK a.2 b.2)->(∀ z∈c,EU lo z.2)->(∀ z∈c.drop 1,hi=[]\/ltK z.2 hi)->lL lo hi (Ej j).1
 | [],[],lo,_,_,_,_=>λe d=>by cases d
 | [],_ :: _,lo,h,_,_,_=>h.elim
 | _ :: _,[],lo,h,_,_,_=>h.elim
 | z :: c,g :: j,lo,h,hp,hl,hh=>λe d=>by
   obtain⟨m,o⟩:=JK.1 hp;have p:=hl z AZ
   rcases BO.1 (show e∈g.1++(Ej j).1 from d)with d | d
   ·obtain ⟨a,b⟩:=l _ _ _ _ h.1 e d;refine⟨FZ1 p a, ?_⟩
    cases c with
    | nil=>exact b
    | cons y c =>
      have i:y.2=[]\/ltK e.1 y.2:=b;have f:=m y AZ
      rcases i with i | i
      ·rw[i]at f;exact absurd f Jt
      ·rcases hh y (by simp) with k | k
       ·exact .inl k
       ·exact .inr (Fg i k)
   ·refine ZV l (lo:=lo) h.2 o (λy f=>hl y (BF _ f)) (λy f=>hh y ?_) e d;exact JV f
def FY.dV {G:Nat->Pg} {q:Nat}:∀ {d n:Nat} {lo hi:Ky} {g:List En×Nat},FY G q d n lo hi g->lL lo hi g.1
 | 0,n,lo,hi,g,⟨lk,its,P,h1,h2,h3,_⟩=>λe j=>by
   obtain⟨i,b,f⟩:=h2.UU e j;rw[<- f];exact(h3 i b).2
 | d+1,n,lo,hi,g,⟨its,gs,h1,h2,h3,h4,h5,h6,h7,h8,h9⟩=>by
   rw[h9];refine ZV (λ_ _ _ _ h=>FY.dV h) h8 (PX.2 h6) (λz c=>?_) (λz c=>?_)
   ·obtain ⟨i,b,rfl⟩:=DI.1 c
    cases its with
    | nil=>exact absurd rfl h2
    | cons a r =>
      rcases BI.1 b with e | l
      ·rw[e];show EU lo a.k;rw[<- h3];exact Px _
      ·exact(h5 i l).1
   ·rw [<- MW] at c;obtain⟨i,b,rfl⟩:=DI.1 c;exact(h5 i b).2
def FH (fr tk:Ky) (most:Int):List En->List En->List En
 | [],dn=>dn
 | e :: R,dn=>if tk≠[]/\¬ ltK e.1 tk then FH fr tk most R dn else if ltK e.1 fr then dn else if(dn.length:Int)=most then dn else FH fr tk most R (dn++[e])
section
variable {fr tk:Ky} {most:Int}
def iC {R':List En}:∀ {R dn:List En},(∀ e∈R,tk≠[]/\¬ ltK e.1 tk)->FH fr tk most (R++R') dn=FH fr tk most R' dn
 | [],_,_=>rfl
 | e :: R,dn,h=>by
   rw[F7,FH,AC (h e AZ)];exact iC λx a=>h x (BF _ a)
def qJ:∀ {R dn:List En},(∀ e∈R,ltK e.1 fr)->FH fr tk most R dn=dn
 | [],_,_=>rfl
 | e :: R,dn,h=>by
   rw[FH]
   split
   ·exact qJ λx a=>h x (BF _ a)
   ·rw[AC (h e AZ)]
end
def IL(fr tk:Ky)(e:En):Bool:=!decide (ltK e.1 fr) && (decide (tk=[]) || decide (ltK e.1 tk))
def LZ(most:Int)(n:Nat)(l:List En):List En:=if most<0 then l else l.take (most.toNat-n)
section
variable {fr tk:Ky} {most:Int}
def aJ:∀ (E acc:List En),(most<0\/(acc.length:Int)<=most)->E.foldl (NW fr tk most) acc=acc++LZ most acc.length (E.filter (IL fr tk))
 | [],acc,_=>by unfold LZ;split <;> simp
 | e :: E,acc,h=>by
   rw[dE,OQ];have d:QI fr tk most acc e=(IL fr tk e && decide ((acc.length:Int)≠most)):=rfl;have f:NW fr tk most acc e=if QI fr tk most acc e then acc++[e]else acc:=rfl;rw[f,d]
   cases hi:IL fr tk e with
   | false =>
     rw[Bool.false_and,AO RH,AO RH];exact aJ E acc h
   | true =>
     rw[Bool.true_and,AC rfl];by_cases c:(acc.length:Int)=most
     ·rw [AO (by simp [c])];rw[aJ E acc h]
      have a:¬ most<0:=by omega
      have b:most.toNat-acc.length=0:=by omega
      unfold LZ;rw[AO a,AO a,b,DZ,DZ]
     ·rw [AC (EW c)];rw[aJ E (acc++[e]) (by rw[A8,JB];omega),A8,JB];unfold LZ;by_cases a:most<0
      ·rw[AC a,AC a,BU];rfl
      ·rw [AO a,AO a,BU]
       have b:most.toNat-acc.length=(most.toNat-(acc.length+1))+1:=by omega
       rw[b,DY];rfl
def pJ(E:List En):Oz fr tk most E=LZ most 0 (E.filter (IL fr tk)):=by
 unfold Oz;rw[aJ E [] (by simp;omega),JU];rfl
def zJ:∀ {L:List En},VZ L->(∀ e∈L,¬ ltK e.1 fr)->KF tk L=L.filter (IL fr tk)
 | [],_,_=>rfl
 | e :: L,hs,hf=>by
   obtain⟨d,f⟩:=JK.1 hs;have g:decide (ltK e.1 fr)=false:=EY (hf e AZ)
   have i:IL fr tk e=(decide (tk=[]) || decide (ltK e.1 tk)):=by unfold IL;rw[g];rfl
   unfold KF;rw[QW,OQ,i]
   cases a:(decide (tk=[]) || decide (ltK e.1 tk))with
   | true =>
     rw[AC rfl,AC rfl];exact D8 (e :: ·) (zJ f λx b=>hf x (BF _ b))
   | false =>
     rw[AO RH,AO RH];rw[Bool.or_eq_false_iff]at a;have j:tk≠[]:=of_decide_eq_false a.1;have k:¬ ltK e.1 tk:=of_decide_eq_false a.2;refine(VO.2 λx b=>?_).symm;have c:=d x b;unfold IL;rw[EY j,EY (λh=>k (Fg c h))];simp
def FS0:∀ {E:List En},VZ E->KF tk (E.dropWhile λe=>decide (ltK e.1 fr))=E.filter (IL fr tk)
 | [],_=>rfl
 | e :: E,hs=>by
   obtain⟨c,d⟩:=JK.1 hs;by_cases a:ltK e.1 fr
   ·rw [dM,AC (EW a),OQ]
    have f:IL fr tk e=false:=by unfold IL;rw[EW a];rfl
    rw[f,AO RH];exact FS0 d
   ·rw [dM,AO (by simp [a])];refine zJ hs λx b=>?_
    rcases BI.1 b with rfl | b
    ·exact a
    ·exact λh=>a (Fg (c x b) h)
def GM1{E:List En}(a:VZ E):NY fr tk most E=Oz fr tk most E:=by
 rw[pJ];unfold NY LZ;simp only[FS0 a,Nat.sub_zero]
def kK:∀ {R dn:List En},(R.Pairwise λa b=>ltK b.1 a.1)->(most<0\/(dn.length:Int)<=most)->FH fr tk most R dn=dn++LZ most dn.length (R.filter (IL fr tk))
 | [],dn,_,_=>by unfold LZ;rw[FH];split <;> simp
 | e :: R,dn,hs,h=>by
   obtain⟨m,j⟩:=JK.1 hs;rw[FH,OQ];by_cases d:tk≠[]/\¬ ltK e.1 tk
   ·have f:IL fr tk e=false:=by unfold IL;rw [EY d.1,EY d.2];simp
    rw[AC d,f,AO RH];exact kK j h
   ·rw [AO d];by_cases g:ltK e.1 fr
    ·have f:IL fr tk e=false:=by unfold IL;rw [EW g];rfl
     have n:R.filter (IL fr tk)=[]:=VO.2 λx o=>by
      unfold IL;rw[EW (Fg (m x o) g)];simp
     rw[AC g,f,AO RH,n]
     unfold LZ;split <;> simp
    ·have f:IL fr tk e=true:=by
      unfold IL;rw[EY g]
      by_cases k:tk=[]
      ·rw[EW k];rfl
      ·rw[EW (FC λp=>d ⟨k,p⟩)];simp
     rw[AO g,f,AC rfl];by_cases l:(dn.length:Int)=most
     ·have c:¬ most<0:=by omega
      have i:most.toNat-dn.length=0:=by omega
      rw[AC l];unfold LZ;rw[AO c,i,DZ,GI]
     ·rw [AO l,kK j (by rw [A8,JB];omega),A8,JB];unfold LZ;by_cases c:most<0
      ·rw[AC c,AC c,BU];rfl
      ·rw [AO c,AO c,BU]
       have i:most.toNat-dn.length=(most.toNat-(dn.length+1))+1:=by omega
       rw[i,DY];rfl
def DO1{E:List En}(a:VZ E):FH fr tk most E.reverse []=Zl fr tk most E:=by
 rw[kK (List.pairwise_reverse.2 a) (by simp;omega),JU,List.filter_reverse];unfold Zl;rw[pJ];unfold LZ;rw[AC (show(-1:Int)<0 by omega)];rfl
end
open Go.BigFrame
def LU0 {w:World} {X:List (Option Nat)} {tb p root c k:Nat} {S g:St} {it:It} {v:Ky} {ps:List Nat} (h:PT w X p S g c k) (i:TM w X tb p root) (j:c+2*ps.length<=60000) (l:k+4*ps.length<=800000000) (f:it.k.length<=200) (hi:I7 S.G it v ps) (m:ps.Nodup) (n:∀ x∈ps,0<x/\x<S.q/\x∉S.fr) :
 Calls Tryz.prog 52 #[.pointer (some ⟨tb,0,none⟩),.string (Af it)] w (Gw X w p (Bl S ps) g (c+2*ps.length) (k+4*ps.length) (.tuple #[])):=by
 obtain⟨key,r⟩:=it
 rcases hi with⟨a,b,rfl⟩ |⟨a,b,o,d,e⟩
 ·dsimp only at a;subst a;refine(Sz f (by omega)).mono ?_;rintro s w' ⟨rfl,rfl⟩;exact⟨rfl,X,h,Turn.refl _ _⟩
 ·dsimp only at a;subst a;exact Ur h i j l f ⟨jJ e,m,n⟩ d
def Kz.at {G:Nat->Pg}:∀ {l:List It} {E:List En} {P:List (List Nat)} {j:Nat},Kz G l E P->(hj:j<l.length)->∃ v ps,P[j]? = some ps/\I7 G l[j] v ps
 | [],_,_,_,_,hj=>absurd hj (OM _)
 | i :: l,[],[],_,h,_=>h.elim
 | i :: l,[],_ :: _,_,h,_=>h.elim
 | i :: l,_ :: _,[],_,h,_=>h.elim
 | i :: l,e :: E,ps :: P,0,h,hj=>⟨e.2,ps,rfl,h.2.1⟩
 | i :: l,e :: E,ps :: P,j+1,h,hj=>by
   obtain⟨v,a,b,c⟩:=Kz.at (j:=j) h.2.2 (by simpa using hj);exact⟨v,a,by simpa using b,c⟩
structure LX (w wr:World) (X X':List (Option Nat)) (tb p root n kd lk m cp:Nat) (A:Option Addr) (cs:List ByteArray):Prop where
 tu:Turn X X' w wr
 tm:TM wr X' tb p root
 nb:Has wr w.heap.size 116 #[.int .i64 n,.int .i64 kd,.int .i64 lk,.slice A m cp]
 nx:some w.heap.size∉X'
 ss:SS wr A m cs
 rx:∀ a,A=some a->some a.block∉X'/\a.block<wr.heap.size
def LX.turn{w wr w2:World}{X X' X2:List (Option Nat)}{tb p root n kd c m cp:Nat}{A:Option Addr}{cs:List ByteArray}(h:LX w wr X X' tb p root n kd c m cp A cs)(b:Turn X' X2 wr w2):LX w w2 X X2 tb p root n kd c m cp A cs :=
 ⟨h.tu.trans b,h.tm.turn b,b.has h.nb h.nx,b.out h.nx h.nb.lt,h.ss.stay b.size λa e=>b.block _ (h.rx a e).2 (h.rx a e).1,λa e=>⟨b.out (h.rx a e).1 (h.rx a e).2,DD (h.rx a e).2 b.size⟩⟩
def LX.below{w wr w2:World}{X X':List (Option Nat)}{tb p root n kd a m cp:Nat}{A:Option Addr}{cs:List ByteArray}(h:LX w wr X X' tb p root n kd a m cp A cs)(hb:Below wr.heap.size wr w2):LX w w2 X X' tb p root n kd a m cp A cs:=h.turn (Turn.below _ hb)
def RM1(w:World)(X:List (Option Nat))(p tb root c k n d cp:Nat)(A:Option Addr)(S e:St)(a:List It)(P:List (List Nat))(g:Nat)(b:Value)(wr:World):Prop :=
 ∃ j X',j+g=a.length/\b = .int .i64 j/\PT wr X' p (Bl S (P.take j).flatten) e (c+2*(P.take j).flatten.length) (k+1+4*(P.take j).flatten.length)/\LX w wr X X' tb p root n 1 d a.length cp A (a.map Af)
def RJ1(w:World)(X:List (Option Nat))(p tb root c k n b cp:Nat)(A:Option Addr)(S d:St)(a:List It)(P:List (List Nat))(g:Nat)(e:Value)(wr:World):Prop :=
 ∃ X',e = .int .i64 0/\PT wr X' p (Bl S P.flatten) d (c+2*P.flatten.length) (k+1+4*P.flatten.length)/\LX w wr X X' tb p root n 1 b a.length cp A (a.map Af)
def ZP0 {w:World} {X:List (Option Nat)} {tb p root c k n l cp:Nat} {S I:St} {A:Option Addr} {b:List It} {E:List En} {P:List (List Nat)} (h:PT w X p S I c (k+1)) (N:TM w X tb p root) (hc:c+2*(P.flatten++[n]).length<=59000) (hk:k+5*(P.flatten++[n]).length<=700000000)
 (he:Kz S.G b E P) (aj:∀ i∈b,RQ i) (V:b.length<=1000) (ak:SS w A b.length (b.map Af)) (Y:∀ a,A=some a->some a.block∉X/\a.block<w.heap.size) (hn:(P.flatten++[n]).Nodup) (hr:∀ q∈P.flatten++[n],0<q/\q<S.q/\q∉S.fr) :
 Calls Tryz.prog 61 #[.pointer (some ⟨tb,0,none⟩),.agg #[.int .i64 n,.int .i64 1,.int .i64 l,.slice A b.length cp]] w (Gw X w p (Bl S (P.flatten++[n])) I (c+2*(P.flatten++[n]).length) (k+5*(P.flatten++[n]).length) (.tuple #[])):=by
 have s:=Ag w (.cells #[.int .i64 n,.int .i64 1,.int .i64 l,.slice A b.length cp] 116);have NB:=Has.new w 116 #[.int .i64 n,.int .i64 1,.int .i64 l,.slice A b.length cp]
 have D0:=Ac (show LX w (w.alloc (.cells #[.int .i64 n,.int .i64 1,.int .i64 l,.slice A b.length cp] 116)) X X tb p root n 1 l b.length cp A (b.map Af) from
  ⟨Turn.below X s,N.below s,NB,λd=>by have:=h.lt _ d;omega,ak.keep s,λa e=>⟨(Y a e).1,DD (Y a e).2 s.size⟩⟩)
 have P0:=Ac (h.below s);have t:=Ac (AV he (AV aj (AV hn hr)));have O:=Ac (AV hc (AV hk V));have ae:=he.len.2;have az:=Ac ae;have il:b.length<=1000:=V;clear h N hc hk he aj V ak Y hn hr s NB ae;go_enter Tryz.func61,Tryz.ntmps61;have N0:=D0.nb;obtain⟨o,u,z,B⟩:=N0.cells4;have r:=N0.lt
 go_wp2_with fail
 generalize w.alloc (.cells #[.int .i64 n,.int .i64 1,.int .i64 l,.slice A b.length cp] 116)=W0 at *
 go_loopg [11] b.length (λg a0 wr=>RM1 w X p tb root c k n l cp A S I b P g a0 wr)
 case atStart=>exact⟨0,X,by omega,rfl,P0,D0⟩
 case round =>
  obtain⟨j,X1,q1,rfl,q3,J⟩:=hrel;clear o u z B r N0 P0 D0;have f:=J.nb;obtain⟨o,u,z,B⟩:=f.cells4;have r:=f.lt;have Q:=f.frozen;have LY:=Ac (λW=>Pz n l (.slice A b.length cp) W);have D:=Ac q3;have R:=Ac J;by_cases hj:j<b.length
  ·have a1:(j:Int)<(b.length:Int):=by omega
   obtain⟨bA,oA,eA,lA,cA⟩:=J.ss.2 (by omega);have cj:=cA j (Af b[j]) (by rw[GH,DK hj];rfl);obtain⟨v,ps,Z,al⟩:=t.1.at hj;clear q3 J f cA;subst eA
   have hP:P=P.take j++ps :: P.drop (j+1):=by
    obtain⟨a2,e9⟩:=C9.1 Z;rw[<- e9,<- FQ a2,DX]
   obtain⟨F,T⟩:∃ F,(P.take j).flatten=F:=⟨_,rfl⟩
   have aa:P.flatten=F++(ps++(P.drop (j+1)).flatten):=by
    conv=>lhs;rw[hP]
    rw[PZ,dG,T]
   have hT:(P.take (j+1)).flatten=F++ps:=by
    rw[mX,Z,PZ,T];simp
   have ab:=t.2.2.1;have L:=t.2.2.2;rw[aa]at ab L;have af:=(CZ.1 ab).1;obtain⟨_,am,ac⟩:=CZ.1 af;have an:=(CZ.1 am).1
   have ag:∀ y∈ps,0<y/\y<(Bl S F).q/\y∉(Bl S F).fr:=λy K=>by
    have:=L y (by simp[K]);refine⟨this.1,by rw[Jf];exact this.2.1,λd=>?_⟩
    rcases Tv d with d | d
    ·exact ac y d y (by simp[K]) rfl
    ·exact this.2.2 d
   have ah:I7 (Bl S F).G b[j] v ps:=al.congr λy K=>jT (by have:=(L y (by simp[K])).1;omega) λd=>ac y d y (by simp[K]) rfl
   have ao:F.length+ps.length<=P.flatten.length:=by rw[aa,A8,A8];omega
   have ai:(P.flatten++[n]).length=P.flatten.length+1:=by simp
   rw[T]at D;have LQ:=Ac (AV ao ai);have ap:=(t.2.1 b[j] (EI _)).le;have RS:=Ac (λW (h:PT W X1 p (Bl S F) I (c+2*F.length) (k+1+4*F.length)) (N:TM W X1 tb p root)=>LU0 h N (by have:=O.out;have:=LQ.out;omega) (by have:=O.out;have:=LQ.out;omega) ap ah an ag);obtain⟨C,hC⟩:∃ C,Af b[j]=C:=⟨_,rfl⟩;rw[hC]at RS cj;have a3:=Ac hT;clear hP T aa hT ab L af am ac an ag ah ao ai ap hC al Z
   go_wp2_with fail
   refine(LY _).mono ?_;rintro en w1 ⟨rfl,m⟩;have P2:=Ac (D.below m);have D2:=Ac (R.below m);clear m D R o u z B r Q cj lA
   go_wp2_with (go_at_call 52;(with_reducible refine(RS.out _ P2.out D2.out.tm).mono ?_);rintro en w2 ⟨rfl,X2,aq,ar⟩;have U:=Ac aq;have D3:=Ac (D2.turn ar);clear aq ar P2 D2 RS)
   go_roundg (b.length-(j+1))
   case rel =>
    refine⟨j+1,X2,by omega,by simp, ?_,D3⟩;rw[a3.out,Vh,A8];exact U.more (by omega) (by omega)
   case measure=>omega
  ·obtain rfl:j=b.length:=by omega
   have a1:¬(b.length:Int)<(b.length:Int):=by omega
   have au:P.take b.length=P:=EE (by have:=az.out;omega);rw[au]at D;clear o u z B r Q f q3 J au
   go_wp2_with fail
   go_loopg [6] 0 (λg v6 wr=>RJ1 w X p tb root c k n l cp A S I b P g v6 wr)
   case atStart=>exact⟨X1,rfl,D,R⟩
   case round =>
    obtain⟨X3,rfl,q5,q6⟩:=hrel;have f:=q6.nb;obtain⟨o,u,z,B⟩:=f.cells4;have r:=f.lt;have Q:=f.frozen;have U:=Ac q5;have D3:=Ac q6;clear q5 q6 f D R
    go_wp2_with fail
    refine(LY _).mono ?_;rintro en w1 ⟨rfl,m⟩;have P4:=Ac (U.below m);have H:=Ac (D3.below m);clear m U D3 o u z B r Q
    go_wp2_with fail
    have B5:=(AU w1.heap.size w1).drew;have P5:=Ac (P4.below B5);have D5:=Ac (H.below B5);have t0:=H.tm.has.cells2.1;have tz:=H.tm.has.lt;have o:=H.nb.cell 0;have r:=H.nb.lt
    have ad:(P.flatten++[n]).length=P.flatten.length+1:=by simp
    have M:=t.2.2.2 n (by simp)
    have av:n∉(Bl S P.flatten).fr:=λd=>by
     rcases Tv d with d | d
     ·exact(CZ.1 t.2.2.1).2.2 n d n (by simp) rfl
     ·exact M.2.2 d
    have FR:=Ac (WB (x:=n) P5 (by have:=O.out;omega) (by have:=O.out;omega) M.1 (by rw[Jf];exact M.2.1) av)
    have FE:Bl S (P.flatten++[n])=(Bl S P.flatten).free n:=by rw[Vh];rfl
    rw[FE,ad]at *;clear B5 P4 H ad M av FE
    go_still_tail 6,(by kernel_rfl)
    change wpList _ _ _ _ _ w1.drew
    go_wp2_with (first
     |(go_at_call 80;(with_reducible refine FR.out.mono ?_);rintro en w3 ⟨rfl,X5,aw,ax⟩;have ay:=Ac (AV aw (D5.tu.trans ax));clear aw ax)
     |(go_at_call 129;refine(Gp _).mono ?_;rintro e w1 ⟨rfl,rfl⟩))
    go_end0
    exact⟨rfl,X5,ay.1.more (by omega) (by omega),ay.2⟩
def IJ.at {R:Nat->List Nat->Prop}:∀ {a:List Nat} {b:List (List Nat)} {j:Nat},IJ R a b->(hj:j<a.length)->∃ l,b[j]? = some l/\R a[j] l
 | [],_,_,_,hj=>absurd hj (OM _)
 | _ :: _,[],_,h,_=>h.elim
 | x :: a,l :: b,0,h,_=>⟨l,rfl,h.1⟩
 | x :: a,l :: b,j+1,h,hj=>by
   obtain⟨l2,c,d⟩:=IJ.at (j:=j) h.2 (by simpa using hj);exact⟨l2,by simpa using c,d⟩
def IJ.len {R:Nat->List Nat->Prop}:∀ {a:List Nat} {b:List (List Nat)},IJ R a b->b.length=a.length
 | [],[],_=>rfl
 | [],_ :: _,h=>h.elim
 | _ :: _,[],h=>h.elim
 | _ :: a,_ :: b,h=>by rw[DF,DF,IJ.len h.2]
def J4.pos{G:Nat->Pg}{d n:Nat}{l:List Nat}(h:J4 G d n l):n∈l/\((G n).1=1\/(G n).1=2):=by
 cases d with
 | zero=>obtain⟨e,c,E,P,a,_,_,_,b⟩:=h;exact⟨by rw[b];simp,.inl (by rw[a])⟩
 | succ d=>obtain⟨c,f,a,_,_,_,b⟩:=h;exact⟨by rw[b];simp,.inr (by rw[a])⟩
def YZ (tb p root d:Nat) (b:St):Prop:=∀ (w:World) (X:List (Option Nat)) (c k n cp:Nat) (l:List Nat) (S:St) (A:Option Addr) (pg:Pg),PT w X p S b c (k+1)->TM w X tb p root->c+2*l.length<=59000->k+5*l.length<=700000000->J4 S.G d n l->S.G n=pg->SS w A pg.2.2.length pg.2.2->(∀ a,A=some a->some a.block∉X/\a.block<w.heap.size)->l.Nodup->(∀ q∈l,0<q/\q<S.q/\q∉S.fr) ->
 Calls Tryz.prog 61 #[.pointer (some ⟨tb,0,none⟩),.agg #[.int .i64 n,.int .i64 pg.1,.int .i64 pg.2.1,.slice A pg.2.2.length cp]] w (Gw X w p (Bl S l) b (c+2*l.length) (k+5*l.length) (.tuple #[]))
def drop_zero{tb p root:Nat}{o:St}:YZ tb p root 0 o:=by
 intro w X c k n cp l S A pg h q r s t d a m u g;obtain⟨z,b,E,P,i,v,x,B,rfl⟩:=t;have y:=h.ok.pg n (g n (by simp)).2.1;rw[i]at d;subst d;have j:=Yq y;rw[i]at j
 have C:b.length<=253:=by rw[<- BZ (f:=Af)];exact j
 have e:(b.map Af).length=b.length:=BZ _;dsimp only at a ⊢;rw[e]at a ⊢;exact ZP0 h q r s v x (by omega) a m u g
def RH1(w:World)(X:List (Option Nat))(p tb root c k n b m cp:Nat)(A:Option Addr)(S d:St)(cs:List ByteArray)(g:Nat)(a:Value)(wr:World):Prop :=
 ∃ j,j+g=m/\a = .int .i64 j/\PT wr X p S d c (k+1)/\LX w wr X X tb p root n 2 b m cp A cs
def RI1(w:World)(X:List (Option Nat))(p tb root c k n b m cp:Nat)(A:Option Addr)(S d:St)(cs:List ByteArray)(a:List (List Nat))(g:Nat)(e:Value)(wr:World):Prop :=
 ∃ j X',j+g=m+1/\e = .int .i64 j/\PT wr X' p (Bl S (a.take j).flatten) d (c+2*(a.take j).flatten.length) (k+1+5*(a.take j).flatten.length)/\LX w wr X X' tb p root n 2 b m cp A cs
def CP1{tb p root d:Nat}{L:St}(IH:YZ tb p root d L):YZ tb p root (d+1) L:=by
 intro w X c k n cp l S A pg h M hc hk hs hG Y ae hn P;obtain⟨o,b,h1,h2,h3,h4,rfl⟩:=hs;rw[h1]at hG;subst hG;have hp:=h.ok.pg n (P n (by simp)).2.1;have Q:=Yq hp;rw[h1]at Q;obtain⟨cs,Z⟩:∃ l,(o.drop 1).map Af=l:=⟨_,rfl⟩;obtain⟨z,af⟩:∃ l,Gi (o.headD ⟨[],[]⟩).r=l:=⟨_,rfl⟩;dsimp only at Y Q ⊢;rw[Z]at Y Q ⊢;rw[af]
 have ap:o.length=cs.length+1:=by
  rw[<- Z,BZ,DJ];have:0<o.length:=QY.2 h2;omega
 have N:=Ag w (.cells #[.int .i64 n,.int .i64 2,.int .i64 z,.slice A cs.length cp] 116);have NB:=Has.new w 116 #[.int .i64 n,.int .i64 2,.int .i64 z,.slice A cs.length cp]
 have D0:=Ac (show LX w (w.alloc (.cells #[.int .i64 n,.int .i64 2,.int .i64 z,.slice A cs.length cp] 116)) X X tb p root n 2 z cs.length cp A cs from
  ⟨Turn.below X N,M.below N,NB,λf=>by have:=h.lt _ f;omega,Y.keep N,λa e=>⟨(ae a e).1,DD (ae a e).2 N.size⟩⟩)
 have P0:=Ac (h.below N);have B:=Ac (AV h3 (AV h4 (AV hn P)));have s:=Ac (AV hc (AV hk (AV ap (AV Z af))));have bg:=Ac (show ∀ q,q<S.q->Xu (S.G q)from h.ok.pg);have il:cs.length<=253:=Q;have a9:=Ac IH;clear IH h M hc hk h1 h2 h3 h4 Y ae hn P N NB hp Q ap Z af;go_enter Tryz.func61,Tryz.ntmps61;have N0:=D0.nb;obtain⟨t,D,E,H⟩:=N0.cells4;have u:=N0.lt
 go_wp2_with fail
 generalize w.alloc (.cells #[.int .i64 n,.int .i64 2,.int .i64 z,.slice A cs.length cp] 116)=W0 at *
 go_loopg [11] cs.length (λg ba wr=>RH1 w X p tb root c k n z cs.length cp A S L cs g ba wr)
 case atStart=>exact⟨0,by omega,rfl,P0,D0⟩
 case round =>
  obtain⟨j,q1,rfl,q3,R⟩:=hrel;clear t D E H u N0 P0 D0;have m:=R.nb;obtain⟨t,D,E,H⟩:=m.cells4;have u:=m.lt;have K:=m.frozen;have LN:=Ac (λW=>Qr n z (.slice A cs.length cp) W);have Q3:=Ac q3;have Q4:=Ac R;by_cases hj:j<cs.length
  ·have bb:(j:Int)<(cs.length:Int):=by omega
   obtain⟨bA,oA,eA,lA,cA⟩:=R.ss.2 (by omega);have cj:=cA j cs[j] (DK hj);obtain⟨C,hC⟩:∃ C,cs[j]=C:=⟨_,rfl⟩;rw[hC]at cj;clear q3 R m cA hC;subst eA
   go_wp2_with fail
   refine(LN _).mono ?_;rintro T w1 ⟨rfl,J⟩;have P2:=Ac (Q3.below J);have D2:=Ac (Q4.below J);clear J Q3 Q4 t D E H u K cj lA
   go_wp2_with fail
   go_roundg (cs.length-(j+1))
   case rel=>exact⟨j+1,by omega,by simp,P2,D2⟩
   case measure=>omega
  ·obtain rfl:j=cs.length:=by omega
   have bb:¬(cs.length:Int)<(cs.length:Int):=by omega
   clear t D E H u K m q3 R
   go_wp2_with fail
   go_loopg [6] (cs.length+1) (λg v6 wr=>RI1 w X p tb root c k n z cs.length cp A S L cs b g v6 wr)
   case atStart=>exact⟨0,X,by omega,rfl,Q3,Q4⟩
   case round =>
    obtain⟨i,X3,q2,rfl,q5,q6⟩:=hrel;have m:=q6.nb;obtain⟨t,D,E,H⟩:=m.cells4;have u:=m.lt;have K:=m.frozen;have P3:=Ac q5;have D3:=Ac q6;clear q5 q6 m Q3 Q4
    go_wp2_with fail
    refine(LN _).mono ?_;rintro T w1 ⟨rfl,J⟩;have O:=Ac (P3.below J);have v:=Ac (D3.below J);clear J P3 D3 t D E H u K;have m:=v.nb;obtain⟨t,D,E,H⟩:=m.cells4;have u:=m.lt;have K:=m.frozen;clear m;by_cases hi:i<o.length
    ·have bc:(i:Int)<=(cs.length:Int):=by have:=s.out;omega
     obtain⟨l2,ag,V⟩:=B.2.1.at (j:=i) (by rw[BZ];exact hi);rw[List.getElem_map]at V;obtain⟨q,hq⟩:∃ q,Gi o[i].r=q:=⟨_,rfl⟩;rw[hq]at V
     have KC:=Ac (λW (h:SS W A cs.length cs)=>show Calls Tryz.prog 132 #[.agg #[.int .i64 n,.int .i64 2,.int .i64 z,.slice A cs.length cp],.int .i64 (i:Nat)] W λe w'=>e = .returned (.int .i64 q)/\Below W.heap.size W w' from by
      have e9:o=o.take i++o[i] :: o.drop (i+1):=by rw[<- FQ hi,DX]
      have:=Wq n cs.length cp A o W e9 (by rw[s.2.2.2.1];exact h) (UQ λy I=>⟨(B.1 y I).1,(B.1 y I).2.1⟩) (B.1 o[i] (EI _)).2.2 (by omega);rw[CU,MC (by omega),hq,s.2.2.2.2]at this
      exact this)
     have hP:b=b.take i++l2 :: b.drop (i+1):=by
      obtain⟨bd,e9⟩:=C9.1 ag;rw[<- e9,<- FQ bd,DX]
     obtain⟨F,hF⟩:∃ F,(b.take i).flatten=F:=⟨_,rfl⟩
     have ah:b.flatten=F++(l2++(b.drop (i+1)).flatten):=by
      conv=>lhs;rw[hP]
      rw[PZ,dG,hF]
     have hT:(b.take (i+1)).flatten=F++l2:=by
      rw[mX,ag,PZ,hF];simp
     have ai:=B.2.2.1;have aa:=B.2.2.2;rw[ah]at ai aa;have am:=(CZ.1 ai).1;obtain⟨_,aq,aj⟩:=CZ.1 am;have ar:=(CZ.1 aq).1
     have ad:∀ y∈l2,0<y/\y<(Bl S F).q/\y∉(Bl S F).fr:=λy I=>by
      have:=aa y (by simp[I]);refine⟨this.1,by rw[Jf];exact this.2.1,λf=>?_⟩
      rcases Tv f with f | f
      ·exact aj y f y (by simp[I]) rfl
      ·exact this.2.2 f
     have ac:J4 (Bl S F).G d q l2:=V.congr λy I=>jT (by have:=(aa y (by simp[I])).1;omega) λf=>aj y f y (by simp[I]) rfl
     have au:F.length+l2.length<=b.flatten.length:=by rw[ah,A8,A8];omega
     have an:(b.flatten++[n]).length=b.flatten.length+1:=by simp
     rw[hF]at O;have LQ:=Ac (AV au an);obtain⟨av,ao⟩:=ac.pos;have ak:=ad q av;have LD:=Ac (λW (h:PT W X3 p (Bl S F) L (c+2*F.length) (k+1+5*F.length)) (M:TM W X3 tb p root)=>Jg (n:=q) h M (by have:=s.out;have:=LQ.out;omega) (by have:=s.out;have:=LQ.out;omega) ak.2.1 (h.ok.pg q ak.2.1) ao);have DR:=Ac (λW X A cp (h:PT W X p (Bl S F) L (c+2*F.length) (k+1+5*F.length+1)) (M:TM W X tb p root) hs P=>a9 W X _ _ q cp l2 _ A _ h M (by have:=s.out;have:=LQ.out;omega) (by have:=s.out;have:=LQ.out;omega) ac rfl hs P ar ad);obtain⟨pg,aw⟩:∃ pg,(Bl S F).G q=pg:=⟨_,rfl⟩;rw[aw]at LD DR;have be:=Ac hT;clear hP hF ah hT ai aa am aq aj ar ad ac V au an ag hq av ao ak aw
     go_wp2_with fail
     refine(KC _ v.ss).mono ?_;rintro T w2 ⟨rfl,hb2⟩;have P5:=Ac (O.below hb2);have U:=Ac (v.below hb2);clear hb2 O v t D E H u K
     go_wp2_with fail
     refine(LD _ P5 U.tm).mono ?_;rintro T w3 ⟨A3,c3,X4,rfl,ax,ay,al,az⟩;have P6:=Ac ax;have D6:=Ac (U.turn ay);have O3:=Ac al
     have R3:=Ac (show ∀ a,A3=some a->some a.block∉X4/\a.block<w3.heap.size from λa e=>by
      have e2:(Value.slice A3 pg.2.2.length c3).ownBlock=some a.block:=by rw[e];rfl
      exact⟨az _ e2,(al.lt _ e2).2⟩)
     clear ax ay al az P5 U LD
     go_wp2_with fail
     refine(DR _ _ A3 c3 P6 D6.tm (SS.Ed O3) R3).mono ?_;rintro T w4 ⟨rfl,X5,a0,a1⟩;have P7:=Ac a0;have D7:=Ac (D6.turn a1);clear a0 a1 P6 D6 DR O3 R3
     go_wp2_with fail
     go_roundg (o.length-(i+1))
     case rel =>
      refine⟨i+1,X5,by have:=s.out;omega,by simp, ?_,D7⟩;rw[be.out,Vh,A8];exact P7.more (by omega) (by omega)
     case measure=>have:=s.out;omega
    ·have bc:¬ (i:Int)<=(cs.length:Int):=by have:=s.out;omega
     have a2:b.take i=b:=EE (by have:=B.2.1.len;rw[BZ]at this;omega);rw[a2]at O;clear a2
     go_wp2_with fail
     clear t D E H u K;have B5:=(AU w1.heap.size w1).drew;have P5:=Ac (O.below B5);have U:=Ac (v.below B5);have t0:=v.tm.has.cells2.1;have tz:=v.tm.has.lt;have t:=v.nb.cell 0;have u:=v.nb.lt
     have a3:(b.flatten++[n]).length=b.flatten.length+1:=by simp
     have ab:=B.2.2.2 n (by simp)
     have a4:n∉(Bl S b.flatten).fr:=λf=>by
      rcases Tv f with f | f
      ·exact(CZ.1 B.2.2.1).2.2 n f n (by simp) rfl
      ·exact ab.2.2 f
     have FR:=Ac (WB (x:=n) P5 (by have:=s.out;omega) (by have:=s.out;omega) ab.1 (by rw[Jf];exact ab.2.1) a4)
     have FE:Bl S (b.flatten++[n])=(Bl S b.flatten).free n:=by rw[Vh];rfl
     have bf:=Ac FE;have a5:=Ac a3;clear B5 O v a3 ab a4 FE
     go_still_tail 6,(by kernel_rfl)
     change wpList _ _ _ _ _ w1.drew
     go_wp2_with (first
      |(go_at_call 80;(with_reducible refine FR.out.mono ?_);rintro T w3 ⟨rfl,X5,a6,a7⟩;have a8:=Ac (AV a6 (U.tu.trans a7));clear a6 a7)
      |(go_at_call 129;refine(Gp _).mono ?_;rintro e w1 ⟨rfl,rfl⟩))
     go_end0
     refine⟨rfl,X5, ?_,a8.2⟩;rw[bf.out];exact a8.1.more (by have:=a5.out;omega) (by have:=a5.out;omega)
def qP{S:St}(ok:GY S)(g:S.q<=60000):Vp (S.alloc.set S.Aj (1,0,[])) S.Aj ⟨S.Aj,[],[]⟩ [] [] []/\Mv S (S.alloc.set S.Aj (1,0,[])) [] [S.Aj]:=by
 have b:=ok.Aj;refine⟨⟨⟨⟨⟨List.pairwise_singleton _ _,λx a=>?_⟩,λx a i hi=>?_,λx a=>?_,⟨λc=>Dq,trivial⟩,λx a c=>?_⟩,rfl,rfl⟩,trivial, ?_, ?_⟩,(Mv.alloc ok []).trans (Mv.set (BH.2 rfl) _)⟩
 ·rw [BH.1 a];exact⟨nO,λe d=>by cases d⟩
 ·rw[BH.1 a]at hi;cases hi
 ·rw[BH.1 a];exact BR _
 ·rw [BH.1 a];exact⟨BR _,λh=>absurd rfl h,λh=>by cases h⟩
 ·simp[Gl]
 ·intro p f
  have:p=S.Aj:=by simpa[Gl]using f
  subst this;exact⟨b.1,b.2.1,b.2.2.1⟩
def LL1:Xu (1,0,[]):=⟨by show 1<=1;omega,by show 1<=5;omega,BR _,BR _⟩
def FY0 {w:World} {X:List (Option Nat)} {p c k:Nat} {S b:St} (h:PT w X p S b c k) (K:c+10<=60000) (L:k<=800000000) (M:S.q<=50000) :
 Calls Tryz.prog 8 #[.pointer (some ⟨p,0,none⟩)] w (Gw X w p (S.alloc.set S.Aj (1,0,[])) b (c+3) (k+5) (.tuple #[.int .i64 S.Aj,.int .i64 0])):=by
 have aa:∀(N:Fn) (first cap:Array Value) (w:World),(Instr.makeFunc N first cap).run Tryz.prog w = .ok (.func N first cap) w:=λ_ _ _ _=>rfl;have ok:=h.ok;have O:=ok.Aj;have u:=Ac h;have v:=Ac (λW (h:PT W X p S b c k)=>Z9 h (by omega) (by omega) (by omega));have j:=Ac O;obtain⟨n,Z⟩:∃ n,S.Aj=n:=⟨_,rfl⟩;rw[Z]at v j ⊢;have SV:=Ac (λW X tb (h:PT W X p S.alloc b (c+2) (k+4)) (ht:TM W X tb p 0)=>Hy (A:=none) (m:=0) (cp:=0) (pg:=(1,0,[])) (n:=n) h ht (by omega) (by omega) j.1 j.2.1 j.2.2.1 LL1 (SS.nil W) (by omega));clear h ok O K L M
 go_enter_defers Tryz.func8,Tryz.ntmps8
 have x:=Ag w (.cells #[.int .i64 0] 26);have P:=Ac (u.below x);have l:=Ac (Has.new w 26 #[.int .i64 0]);have o:=Ac (show some w.heap.size∉X from λy=>by have:=u.lt _ y;omega);have Q:=Ac (Turn.below X x)
 go_wp2_with fail
 clear x u;obtain⟨a,s⟩:∃ n,w.heap.size=n:=⟨_,rfl⟩;have G:=Ac s;rw[s]at l o ⊢;generalize w.alloc (.cells #[.int .i64 0] 26)=W0 at *;refine(v W0 P).mono ?_;rintro en w1 ⟨rfl,X1,H,d⟩;have E1:=d.has l o;have t:=Ac (d.out o l.lt);have I:=Ac E1;have z:=Ac H;have R:=Ac (Q.trans d);have B:=E1.cell 0;have C:=E1.frozen;have D:=E1.lt;clear H d E1 l o Q P v s
 go_wp2_with fail
 have T:(w1.setCell ⟨a,0,none⟩ (.int .i64 0)).heap.size=w1.heap.size:=by simp
 have E:=Ag (w1.setCell ⟨a,0,none⟩ (.int .i64 0)) (.cells #[.pointer (some ⟨p,0,none⟩),.int .i64 0] 111);have U:=(z.set t 0 (.int .i64 0)).below E
 have V:=(R.Dz (g:=a) (by rw[G.out];exact AY _) 0 (.int .i64 0)).next E
 have E2:=(I.set 0 (.int .i64 0)).alloc (.cells #[.pointer (some ⟨p,0,none⟩),.int .i64 0] 111);have F:=Has.new (w1.setCell ⟨a,0,none⟩ (.int .i64 0)) 111 #[.pointer (some ⟨p,0,none⟩),.int .i64 0];rw[T]at F;refine(SV _ X1 w1.heap.size U ⟨F,λy=>by have:=z.lt _ y;omega⟩).mono ?_;rintro en w3 ⟨rfl,X3,J,i⟩;have r:=i.has E2 t
 have Y:=Ac (show Gw X w p (S.alloc.set n (1,0,[])) b (c+3) (k+5) (.tuple #[.int .i64 n,.int .i64 0]) (.returned (.tuple #[.int .i64 n,.int .i64 0])) (w3.setCell ⟨a,0,none⟩ (.int .i64 0)) from
  ⟨rfl,X3,(J.set (i.out t E2.lt) 0 _).more (by omega) (by omega),(V.trans i).Dz (by rw[G.out];exact AY _) 0 _⟩)
 clear B C D;have B:=r.cell 0;have C:=r.frozen;have D:=r.lt;clear T E U V E2 F J i r z R I
 go_wp2_with fail
 refine JI (f:=43) (args:=#[.pointer (some ⟨a,0,none⟩)]) (by simp) (by simp[go_sem]) ?_;refine(GG0 ⟨a,0,none⟩ _).mono ?_;rintro e u' ab ⟨rfl,rfl,rfl⟩;simp[Leaves,settle,results,Tryz.results8,go_sem,D,C,B];exact Y
def pY {tb p root:Nat} {a:St}:∀ d,YZ tb p root d a
 | 0=>drop_zero
 | d+1=>CP1 (pY d)
def oN(X:List (Option Nat))(w:World)(p:Nat)(S b:St)(c k:Nat)(own:List Nat)(d:Ending)(w':World):Prop :=
 d = .returned (.int .i64 0)/\∃ a X',PT w' X' p a b (c+2*S.q) (k+5*S.q)/\Turn X X' w w'/\Mv S a own []/\a.q=S.q
def DN1 {w:World} {X:List (Option Nat)} {tb p root c k:Nat} {S o:St} {g:Nd} {d:List (List Nd)} {E:List En} {P:List (List Nat)} (h:PT w X p S o c k) (j:TM w X tb p root) (hc:c+2*S.q<=59000) (hk:k+5*S.q<=700000000)
 (i:Vp S root g d E P) (h3:∀ ps∈P,ps.length<=3) :
 Calls Tryz.prog 17 #[.pointer (some ⟨tb,0,none⟩)] w (oN X w p S o c k (Gl [g] d++P.flatten)):=by
 have ag:∀(fn:Fn) (first cap:Array Value) (w:World),(Instr.makeFunc fn first cap).run Tryz.prog w = .ok (.func fn first cap) w:=λ_ _ _ _=>rfl;have ok:=h.ok;have ab:=ok.few;obtain⟨Ls,y,a2⟩:=FD1 i.tre.1 (λq s=>by have:=i.rng q (BL _ s);omega) h3 i.ent
 obtain⟨l,rfl,u⟩:∃ l,Ls=[l]/\J4 S.G d.length g.n l:=by
  cases Ls with
  | nil=>exact y.elim
  | cons l r =>
    cases r with
    | nil=>exact⟨l,rfl,y.1⟩
    | cons b c=>exact y.2.elim
 have z:l.Perm (Gl [g] d++P.flatten):=by simpa using a2
 have F:l.Nodup:=z.nodup_iff.2 i.nd;have v:∀ q∈l,0<q/\q<S.q/\q∉S.fr:=λq s=>i.rng q (z.mem_iff.1 s);have R:l.length<=S.q:=Ux S.q _ F λq s=>(v q s).2.1;rw[i.tre.2.1]at u;obtain⟨U,T⟩:=u.pos;have H:=v root U
 have MV:=Ac (show Mv S (Bl S l) (Gl [g] d++P.flatten) []from by
  have:=(Mv.Bl l (S:=S) []).perm (a':=Gl [g] d++P.flatten) (by rw[GI];exact z.symm) (MZ _)
  exact this)
 have L:=Ac (λW (h:PT W X p S o c k) (j:TM W X tb p root)=>Jg (n:=root) h j (by omega) (by omega) H.2.1 (ok.pg root H.2.1) T);have M:=Ac (λW X A cp (h:PT W X p S o c (k+1)) (j:TM W X tb p root) ac ad=>pY d.length W X c k root cp l S A _ h j (by omega) (by omega) u rfl ac ad F v);obtain⟨pg,V⟩:∃ pg,S.G root=pg:=⟨_,rfl⟩;rw[V]at L M;have N:=Ac h;have HT:=Ac j;have HL:=Ac R;have B:=Ag w (.cells #[.int .i64 0] 26);have P0:=Ac (N.below B);have t:=Ac (HT.below B);have C:=Ac (Has.new w 26 #[.int .i64 0]);have D:=Ac (show some w.heap.size∉X from λhm=>by have:=N.lt _ hm;omega);have U0:=Ac (Turn.below X B);clear h j hc hk i h3 ok ab y a2 u z F v R U T H V B N HT
 go_enter_defers Tryz.func17,Tryz.ntmps17
 have t1:=t.has.cells2.2;have tz:=t.has.lt
 go_wp2_with fail
 obtain⟨O,I⟩:∃ n,w.heap.size=n:=⟨_,rfl⟩;have ae:=Ac I;rw[I]at C D ⊢;generalize w.alloc (.cells #[.int .i64 0] 26)=W0 at *;refine(L W0 P0 t).mono ?_;rintro en w1 ⟨Q,c1,X1,rfl,Y,m,J,Z⟩;have P1:=Ac Y;have M1:=Ac (t.turn m);have U1:=Ac (U0.trans m);have E1:=Ac (m.has C D);have K:=Ac (m.out D C.lt);have O1:=Ac J
 have R1:=Ac (show ∀ a,Q=some a->some a.block∉X1/\a.block<w1.heap.size from λa e=>by
  have e2:(Value.slice Q pg.2.2.length c1).ownBlock=some a.block:=by rw[e];rfl
  exact⟨Z _ e2,(J.lt _ e2).2⟩)
 clear Y m J Z P0 t U0 C D L t1 tz I
 go_wp2_with fail
 refine(M _ _ Q c1 P1 M1 (SS.Ed O1) R1).mono ?_;rintro en w2 ⟨rfl,X2,aa,x⟩;have E2:=x.has E1 K
 have af:=Ac (show oN X w p S o c k (Gl [g] d++P.flatten) (.returned (.int .i64 0)) (w2.setCell ⟨O,0,none⟩ (.int .i64 0)) from
  ⟨rfl,Bl S l,X2,(aa.set (x.out K E1.lt) 0 _).more (by have:=HL.out;omega) (by have:=HL.out;omega),(U1.trans x).Dz (by rw[ae.out];exact AY _) 0 _,MV,Jf l S⟩)
 have e0:=E2.cell 0;have ef:=E2.frozen;have ez:=E2.lt;clear aa x E2 P1 M1 U1 E1 K O1 R1 M
 go_wp2_with fail
 refine JI (f:=60) (args:=#[.pointer (some ⟨O,0,none⟩)]) (by simp) (by simp[go_sem]) ?_;refine(NR0 ⟨O,0,none⟩ _).mono ?_;rintro e u' ah ⟨rfl,rfl,rfl⟩;simp[Leaves,settle,results,Tryz.results17,go_sem,ez,ef,e0];exact af
def wB{w:World}{p root:Nat}:Calls Tryz.prog 9 #[.pointer (some ⟨p,0,none⟩),.int .i64 root] w λa w'=>a = .returned (.pointer (some ⟨w.heap.size,0,none⟩))/\w'=w.alloc (.cells #[.pointer (some ⟨p,0,none⟩),.int .i64 root] 111):=by
 go_enter Tryz.func9,Tryz.ntmps9
 go_wp2
 go_ret;exact⟨rfl,rfl⟩
end Go.Proofs.YtjihboddejaelaaGreat
