/-
  Package tree: drop: a leaf.
-/
import Derived.Test.YtjihboddejaelaaGreatTs1
import Derived.Test.YtjihboddejaelaaGreatTs18
import Derived.Deep.LoopGhost
import Derived.StillTailTactics
import Derived.Deep.QuietTactic
import Derived.BigQuiet
import Derived.Test.YtjihboddejaelaaGreatTs12
import Derived.Test.YtjihboddejaelaaGreatTs7
set_option linter.unusedVariables false
set_option linter.unusedSimpArgs false
set_option maxRecDepth 100000
set_option maxHeartbeats 100000000
namespace Go.Proofs.YtjihboddejaelaaGreat
open Go.RowKit Go.BigFrame
theorem JE0 {w:World} {X:List (Option Nat)} {tb p root c k:Nat} {S S0:St} {it:It} {v:Ky} {ps:List Nat} (h:PT w X p S S0 c k) (ht:TM w X tb p root) (hc:c+2*ps.length≤60000) (hk:k+4*ps.length≤800000000) (hkey:it.k.length≤200) (hi:ItV S.G it v ps) (hn:ps.Nodup) (hr:∀ x∈ps,0<x∧x<S.q∧x∉S.fr) :
 Calls Tryz.prog 52 #[.pointer (some ⟨tb,0,none⟩),.string (Af it)] w (Hw X w p (Ba S ps) S0 (c+2*ps.length) (k+4*ps.length) (.tuple #[])):=by
 obtain ⟨key,r⟩:=it
 rcases hi with ⟨a,b,rfl⟩ | ⟨a,b,hv,d,e⟩
 ·dsimp only at a;subst a
  refine (Ph hkey (by omega)).mono ?_
  rintro en w' ⟨rfl,rfl⟩;exact ⟨rfl,X,h,Turn.refl _ _⟩
 ·dsimp only at a;subst a
  exact Ql h ht hc hk hkey ⟨CI0 e,hn,hr⟩ d
theorem Mc.at {G:Nat→Pg}:∀ {l:List It} {E:List En} {P:List (List Nat)} {j:Nat},Mc G l E P→(hj:j<l.length)→∃ v ps,P[j]? = some ps∧ItV G l[j] v ps
 | [],_,_,_,_,hj=>absurd hj (Nat.not_lt_zero _)
 | i :: l,[],[],_,h,_=>h.elim
 | i :: l,[],_ :: _,_,h,_=>h.elim
 | i :: l,_ :: _,[],_,h,_=>h.elim
 | i :: l,e :: E,ps :: P,0,h,hj=>⟨e.2,ps,rfl,h.2.1⟩
 | i :: l,e :: E,ps :: P,j+1,h,hj=>by
   obtain ⟨v,qs,h1,h2⟩:=Mc.at (j:=j) h.2.2 (by simpa using hj)
   exact ⟨v,qs,by simpa using h1,h2⟩
structure DrM (w wr:World) (X X':List (Option Nat)) (tb p root n kd lk m cp:Nat) (A:Option Addr) (cs:List ByteArray):Prop where
 tu:Turn X X' w wr
 tm:TM wr X' tb p root
 nb:Has wr w.heap.size 116 #[.int .i64 n,.int .i64 kd,.int .i64 lk,.slice A m cp]
 nx:some w.heap.size∉X'
 ss:SS wr A m cs
 rx:∀ a,A=some a→some a.block∉X'∧a.block<wr.heap.size
theorem DrM.turn {w wr w2:World} {X X' X2:List (Option Nat)} {tb p root n kd lk m cp:Nat} {A:Option Addr} {cs:List ByteArray} (h:DrM w wr X X' tb p root n kd lk m cp A cs) (ht:Turn X' X2 wr w2):DrM w w2 X X2 tb p root n kd lk m cp A cs :=
 ⟨h.tu.trans ht,h.tm.turn ht,ht.has h.nb h.nx,ht.out h.nx h.nb.lt,h.ss.stay ht.size fun a e=>ht.block _ (h.rx a e).2 (h.rx a e).1,fun a e=>⟨ht.out (h.rx a e).1 (h.rx a e).2,Nat.lt_of_lt_of_le (h.rx a e).2 ht.size⟩⟩
theorem DrM.below {w wr w2:World} {X X':List (Option Nat)} {tb p root n kd lk m cp:Nat} {A:Option Addr} {cs:List ByteArray} (h:DrM w wr X X' tb p root n kd lk m cp A cs) (hb:Below wr.heap.size wr w2):DrM w w2 X X' tb p root n kd lk m cp A cs:=h.turn (Turn.below _ hb)
def GD1 (w:World) (X:List (Option Nat)) (p tb root c k n lk cp:Nat) (A:Option Addr) (S S0:St) (its:List It) (P:List (List Nat)) (g:Nat) (v11:Value) (wr:World):Prop :=
 ∃ j X',j+g=its.length∧v11 = .int .i64 j∧PT wr X' p (Ba S (P.take j).flatten) S0 (c+2*(P.take j).flatten.length) (k+1+4*(P.take j).flatten.length)∧DrM w wr X X' tb p root n 1 lk its.length cp A (its.map Af)
def GF1 (w:World) (X:List (Option Nat)) (p tb root c k n lk cp:Nat) (A:Option Addr) (S S0:St) (its:List It) (P:List (List Nat)) (g:Nat) (v6:Value) (wr:World):Prop :=
 ∃ X',v6 = .int .i64 0∧PT wr X' p (Ba S P.flatten) S0 (c+2*P.flatten.length) (k+1+4*P.flatten.length)∧DrM w wr X X' tb p root n 1 lk its.length cp A (its.map Af)
theorem SV0 {w:World} {X:List (Option Nat)} {tb p root c k n lk cp:Nat} {S S0:St} {A:Option Addr} {its:List It} {E:List En} {P:List (List Nat)} (h:PT w X p S S0 c (k+1)) (ht:TM w X tb p root) (hc:c+2*(P.flatten++[n]).length≤59000) (hk:k+5*(P.flatten++[n]).length≤700000000)
 (he:Mc S.G its E P) (hko:∀ i∈its,MD0 i) (hil:its.length≤1000) (hss:SS w A its.length (its.map Af)) (hrx:∀ a,A=some a→some a.block∉X∧a.block<w.heap.size) (hn:(P.flatten++[n]).Nodup) (hr:∀ q∈P.flatten++[n],0<q∧q<S.q∧q∉S.fr) :
 Calls Tryz.prog 61 #[.pointer (some ⟨tb,0,none⟩),.agg #[.int .i64 n,.int .i64 1,.int .i64 lk,.slice A its.length cp]] w (Hw X w p (Ba S (P.flatten++[n])) S0 (c+2*(P.flatten++[n]).length) (k+5*(P.flatten++[n]).length) (.tuple #[])):=by
 have B0:=Ag w (.cells #[.int .i64 n,.int .i64 1,.int .i64 lk,.slice A its.length cp] 116);have NB:=Has.new w 116 #[.int .i64 n,.int .i64 1,.int .i64 lk,.slice A its.length cp]
 have D0:=Ac (show DrM w (w.alloc (.cells #[.int .i64 n,.int .i64 1,.int .i64 lk,.slice A its.length cp] 116)) X X tb p root n 1 lk its.length cp A (its.map Af) from
  ⟨Turn.below X B0,ht.below B0,NB,fun hm=>by have:=h.lt _ hm;omega,hss.keep B0,fun a e=>⟨(hrx a e).1,Nat.lt_of_lt_of_le (hrx a e).2 B0.size⟩⟩)
 have P0:=Ac (h.below B0);have HE:=Ac (And.intro he (And.intro hko (And.intro hn hr)));have HC:=Ac (And.intro hc (And.intro hk hil));have hlen:=he.len.2;have HLN:=Ac hlen;have il:its.length≤1000:=hil;clear h ht hc hk he hko hil hss hrx hn hr B0 NB hlen
 go_enter Tryz.func61,Tryz.ntmps61
 have N0:=D0.out.nb;obtain ⟨y0,y1,y2,y3⟩:=N0.cells4;have yz:=N0.lt
 go_wp2_with fail
 generalize w.alloc (.cells #[.int .i64 n,.int .i64 1,.int .i64 lk,.slice A its.length cp] 116)=W0 at *
 go_loopg [11] its.length (fun g v11 wr=>GD1 w X p tb root c k n lk cp A S S0 its P g v11 wr)
 case atStart=>exact ⟨0,X,by omega,rfl,P0.out,D0.out⟩
 case round =>
  obtain ⟨j,X1,q1,rfl,q3,q4⟩:=hrel;clear y0 y1 y2 y3 yz N0 P0 D0;have N1:=q4.nb;obtain ⟨y0,y1,y2,y3⟩:=N1.cells4;have yz:=N1.lt;have yf:=N1.frozen
  have LY:=Ac (fun W=>Ko n lk (.slice A its.length cp) W)
  have Q3:=Ac q3;have Q4:=Ac q4
  by_cases hj:j<its.length
  ·have hj1:(j:Int)<(its.length:Int):=by omega
   obtain ⟨bA,oA,eA,lA,cA⟩:=q4.ss.2 (by omega)
   have cj:=cA j (Af its[j]) (by rw [List.getElem?_map,List.getElem?_eq_getElem hj];rfl)
   obtain ⟨v,ps,hps,hiv⟩:=HE.out.1.at hj;clear q3 q4 N1 cA;subst eA
   have hP:P=P.take j++ps :: P.drop (j+1):=by
    obtain ⟨hl9,e9⟩:=List.getElem?_eq_some_iff.1 hps;rw [← e9,← List.drop_eq_getElem_cons hl9,List.take_append_drop]
   obtain ⟨F,hF⟩:∃ F,(P.take j).flatten=F:=⟨_,rfl⟩
   have hPf:P.flatten=F++(ps++(P.drop (j+1)).flatten):=by
    conv=>lhs;rw [hP]
    rw [List.flatten_append,List.flatten_cons,hF]
   have hT:(P.take (j+1)).flatten=F++ps:=by
    rw [List.take_add_one,hps,List.flatten_append,hF];simp
   have hnd:=HE.out.2.2.1;have hrg:=HE.out.2.2.2;rw [hPf] at hnd hrg;have hnd2:=(List.nodup_append.1 hnd).1;obtain ⟨_,nd3,nd4⟩:=List.nodup_append.1 hnd2;have ndp:=(List.nodup_append.1 nd3).1
   have hps2:∀ y∈ps,0<y∧y<(Ba S F).q∧y∉(Ba S F).fr:=fun y hy=>by
    have:=hrg y (by simp [hy])
    refine ⟨this.1,by rw [Ic];exact this.2.1,fun hm=>?_⟩
    rcases Qk hm with hm | hm
    ·exact nd4 y hm y (by simp [hy]) rfl
    ·exact this.2.2 hm
   have hiv2:ItV (Ba S F).G its[j] v ps:=hiv.congr fun y hy=>BY0 (by have:=(hrg y (by simp [hy])).1;omega) fun hm=>nd4 y hm y (by simp [hy]) rfl
   have hlq:F.length+ps.length≤P.flatten.length:=by rw [hPf,List.length_append,List.length_append];omega
   have hlq2:(P.flatten++[n]).length=P.flatten.length+1:=by simp
   rw [hF] at Q3;have LQ:=Ac (And.intro hlq hlq2);have hk2:=(HE.out.2.1 its[j] (List.getElem_mem _)).le
   have RS:=Ac (fun W (h:PT W X1 p (Ba S F) S0 (c+2*F.length) (k+1+4*F.length)) (ht:TM W X1 tb p root)=>JE0 h ht (by have:=HC.out;have:=LQ.out;omega) (by have:=HC.out;have:=LQ.out;omega) hk2 hiv2 ndp hps2)
   obtain ⟨C,hC⟩:∃ C,Af its[j]=C:=⟨_,rfl⟩;rw [hC] at RS cj;have HT2:=Ac hT;clear hP hF hPf hT hnd hrg hnd2 nd3 nd4 ndp hps2 hiv2 hlq hlq2 hk2 hC hiv hps
   go_wp2_with fail
   refine (LY.out _).mono ?_
   rintro en w1 ⟨rfl,hb1⟩;have P2:=Ac (Q3.out.below hb1);have D2:=Ac (Q4.out.below hb1);clear hb1 Q3 Q4 y0 y1 y2 y3 yz yf cj lA
   go_wp2_with (go_at_call 52;(with_reducible refine (RS.out _ P2.out D2.out.tm).mono ?_);rintro en w2 ⟨rfl,X2,hp2,ht2⟩;have P3:=Ac hp2;have D3:=Ac (D2.out.turn ht2);clear hp2 ht2 P2 D2 RS)
   go_roundg (its.length-(j+1))
   case rel =>
    refine ⟨j+1,X2,by omega,by simp, ?_,D3.out⟩
    rw [HT2.out,Ru,List.length_append]
    exact P3.out.more (by omega) (by omega)
   case measure=>omega
  ·obtain rfl:j=its.length:=by omega
   have hj1:¬ (its.length:Int)<(its.length:Int):=by omega
   have hTk:P.take its.length=P:=List.take_of_length_le (by have:=HLN.out;omega)
   rw [hTk] at Q3;clear y0 y1 y2 y3 yz yf N1 q3 q4 hTk
   go_wp2_with fail
   go_loopg [6] 0 (fun g v6 wr=>GF1 w X p tb root c k n lk cp A S S0 its P g v6 wr)
   case atStart=>exact ⟨X1,rfl,Q3.out,Q4.out⟩
   case round =>
    obtain ⟨X3,rfl,q5,q6⟩:=hrel;have N1:=q6.nb;obtain ⟨y0,y1,y2,y3⟩:=N1.cells4;have yz:=N1.lt;have yf:=N1.frozen;have P3:=Ac q5;have D3:=Ac q6;clear q5 q6 N1 Q3 Q4
    go_wp2_with fail
    refine (LY.out _).mono ?_
    rintro en w1 ⟨rfl,hb1⟩;have P4:=Ac (P3.out.below hb1);have D4:=Ac (D3.out.below hb1);clear hb1 P3 D3 y0 y1 y2 y3 yz yf
    go_wp2_with fail
    have B5:=(Below.refl w1.heap.size w1).drew;have P5:=Ac (P4.out.below B5);have D5:=Ac (D4.out.below B5);have t0:=D4.out.tm.has.cells2.1;have tz:=D4.out.tm.has.lt;have y0:=D4.out.nb.cell 0;have yz:=D4.out.nb.lt
    have hll:(P.flatten++[n]).length=P.flatten.length+1:=by simp
    have hrn:=HE.out.2.2.2 n (by simp)
    have hnf:n∉(Ba S P.flatten).fr:=fun hm=>by
     rcases Qk hm with hm | hm
     ·exact (List.nodup_append.1 HE.out.2.2.1).2.2 n hm n (by simp) rfl
     ·exact hrn.2.2 hm
    have FR:=Ac (Zi (x:=n) P5.out (by have:=HC.out;omega) (by have:=HC.out;omega) hrn.1 (by rw [Ic];exact hrn.2.1) hnf)
    have FE:Ba S (P.flatten++[n])=(Ba S P.flatten).free n:=by rw [Ru];rfl
    rw [FE,hll] at *;have HL:=Ac hll;clear B5 P4 D4 hll hrn hnf FE
    go_still_tail 6,(by kernel_rfl)
    change wpList _ _ _ _ _ w1.drew
    go_wp2_with (first
     | (go_at_call 80;(with_reducible refine FR.out.mono ?_);rintro en w3 ⟨rfl,X5,hp5,ht5⟩;have FIN:=Ac (And.intro hp5 (D5.out.tu.trans ht5));clear hp5 ht5)
     | (go_at_call 129;refine (Et _).mono ?_;rintro e w1 ⟨rfl,rfl⟩))
    go_end0
    exact ⟨rfl,X5,FIN.out.1.more (by omega) (by omega),FIN.out.2⟩
theorem EO0.at {R:Nat→List Nat→Prop}:∀ {a:List Nat} {Ls:List (List Nat)} {j:Nat},EO0 R a Ls→(hj:j<a.length)→∃ l,Ls[j]? = some l∧R a[j] l
 | [],_,_,_,hj=>absurd hj (Nat.not_lt_zero _)
 | _ :: _,[],_,h,_=>h.elim
 | x :: a,l :: Ls,0,h,_=>⟨l,rfl,h.1⟩
 | x :: a,l :: Ls,j+1,h,hj=>by
   obtain ⟨l2,h1,h2⟩:=EO0.at (j:=j) h.2 (by simpa using hj)
   exact ⟨l2,by simpa using h1,h2⟩
theorem EO0.len {R:Nat→List Nat→Prop}:∀ {a:List Nat} {Ls:List (List Nat)},EO0 R a Ls→Ls.length=a.length
 | [],[],_=>rfl
 | [],_ :: _,h=>h.elim
 | _ :: _,[],h=>h.elim
 | _ :: a,_ :: Ls,h=>by rw [List.length_cons,List.length_cons,EO0.len h.2]
theorem Sub.pos {G:Nat→Pg} {d n:Nat} {l:List Nat} (h:Sub G d n l):n∈l∧((G n).1=1∨(G n).1=2):=by
 cases d with
 | zero=>obtain ⟨lk,its,E,P,h1,_,_,_,h5⟩:=h;exact ⟨by rw [h5];simp,.inl (by rw [h1])⟩
 | succ d=>obtain ⟨its,Ls,h1,_,_,_,h5⟩:=h;exact ⟨by rw [h5];simp,.inr (by rw [h1])⟩
def PX0 (tb p root d:Nat) (S0:St):Prop:=∀ (w:World) (X:List (Option Nat)) (c k n cp:Nat) (l:List Nat) (S:St) (A:Option Addr) (pg:Pg),PT w X p S S0 c (k+1)→TM w X tb p root→c+2*l.length≤59000→k+5*l.length≤700000000→Sub S.G d n l→S.G n=pg→SS w A pg.2.2.length pg.2.2→(∀ a,A=some a→some a.block∉X∧a.block<w.heap.size)→l.Nodup→(∀ q∈l,0<q∧q<S.q∧q∉S.fr) →
 Calls Tryz.prog 61 #[.pointer (some ⟨tb,0,none⟩),.agg #[.int .i64 n,.int .i64 pg.1,.int .i64 pg.2.1,.slice A pg.2.2.length cp]] w (Hw X w p (Ba S l) S0 (c+2*l.length) (k+5*l.length) (.tuple #[]))
theorem drop_zero {tb p root:Nat} {S0:St}:PX0 tb p root 0 S0:=by
 intro w X c k n cp l S A pg h ht hc hk hs hG hss hrx hn hr;obtain ⟨lk,its,E,P,h1,h2,h3,h4,rfl⟩:=hs
 have hp:=h.ok.pg n (hr n (by simp)).2.1
 rw [h1] at hG;subst hG;have h5:=Oy hp;rw [h1] at h5
 have h6:its.length≤253:=by rw [← List.length_map (f:=Af)];exact h5
 have e:(its.map Af).length=its.length:=List.length_map _;dsimp only at hss ⊢;rw [e] at hss ⊢
 exact SV0 h ht hc hk h2 h3 (by omega) hss hrx hn hr
def GK1 (w:World) (X:List (Option Nat)) (p tb root c k n lk m cp:Nat) (A:Option Addr) (S S0:St) (cs:List ByteArray) (g:Nat) (v11:Value) (wr:World):Prop :=
 ∃ j,j+g=m∧v11 = .int .i64 j∧PT wr X p S S0 c (k+1)∧DrM w wr X X tb p root n 2 lk m cp A cs
def GM1 (w:World) (X:List (Option Nat)) (p tb root c k n lk m cp:Nat) (A:Option Addr) (S S0:St) (cs:List ByteArray) (Ls:List (List Nat)) (g:Nat) (v6:Value) (wr:World):Prop :=
 ∃ j X',j+g=m+1∧v6 = .int .i64 j∧PT wr X' p (Ba S (Ls.take j).flatten) S0 (c+2*(Ls.take j).flatten.length) (k+1+5*(Ls.take j).flatten.length)∧DrM w wr X X' tb p root n 2 lk m cp A cs
theorem WW0 {tb p root d:Nat} {S0:St} (IH:PX0 tb p root d S0):PX0 tb p root (d+1) S0:=by
 intro w X c k n cp l S A pg h ht hc hk hs hG hss hrx hn hr;obtain ⟨its,Ls,h1,h2,h3,h4,rfl⟩:=hs;rw [h1] at hG;subst hG
 have hp:=h.ok.pg n (hr n (by simp)).2.1
 have h5:=Oy hp;rw [h1] at h5;obtain ⟨cs,hcs⟩:∃ l,(its.drop 1).map Af=l:=⟨_,rfl⟩;obtain ⟨lk,hlk⟩:∃ l,Dz (its.headD ⟨[],[]⟩).r=l:=⟨_,rfl⟩;dsimp only at hss h5 ⊢;rw [hcs] at hss h5 ⊢;rw [hlk]
 have hml:its.length=cs.length+1:=by
  rw [← hcs,List.length_map,List.length_drop];have:0<its.length:=List.length_pos_iff.2 h2;omega
 have B0:=Ag w (.cells #[.int .i64 n,.int .i64 2,.int .i64 lk,.slice A cs.length cp] 116);have NB:=Has.new w 116 #[.int .i64 n,.int .i64 2,.int .i64 lk,.slice A cs.length cp]
 have D0:=Ac (show DrM w (w.alloc (.cells #[.int .i64 n,.int .i64 2,.int .i64 lk,.slice A cs.length cp] 116)) X X tb p root n 2 lk cs.length cp A cs from
  ⟨Turn.below X B0,ht.below B0,NB,fun hm=>by have:=h.lt _ hm;omega,hss.keep B0,fun a e=>⟨(hrx a e).1,Nat.lt_of_lt_of_le (hrx a e).2 B0.size⟩⟩)
 have P0:=Ac (h.below B0);have HE:=Ac (And.intro h3 (And.intro h4 (And.intro hn hr)));have HC:=Ac (And.intro hc (And.intro hk (And.intro hml (And.intro hcs hlk))))
 have HPG:=Ac (show ∀ q,q<S.q→Qq (S.G q) from h.ok.pg)
 have il:cs.length≤253:=h5;have HIH:=Ac IH;clear IH h ht hc hk h1 h2 h3 h4 hss hrx hn hr B0 NB hp h5 hml hcs hlk
 go_enter Tryz.func61,Tryz.ntmps61
 have N0:=D0.out.nb;obtain ⟨y0,y1,y2,y3⟩:=N0.cells4;have yz:=N0.lt
 go_wp2_with fail
 generalize w.alloc (.cells #[.int .i64 n,.int .i64 2,.int .i64 lk,.slice A cs.length cp] 116)=W0 at *
 go_loopg [11] cs.length (fun g v11 wr=>GK1 w X p tb root c k n lk cs.length cp A S S0 cs g v11 wr)
 case atStart=>exact ⟨0,by omega,rfl,P0.out,D0.out⟩
 case round =>
  obtain ⟨j,q1,rfl,q3,q4⟩:=hrel;clear y0 y1 y2 y3 yz N0 P0 D0;have N1:=q4.nb;obtain ⟨y0,y1,y2,y3⟩:=N1.cells4;have yz:=N1.lt;have yf:=N1.frozen
  have LN:=Ac (fun W=>Jv n lk (.slice A cs.length cp) W)
  have Q3:=Ac q3;have Q4:=Ac q4
  by_cases hj:j<cs.length
  ·have hj1:(j:Int)<(cs.length:Int):=by omega
   obtain ⟨bA,oA,eA,lA,cA⟩:=q4.ss.2 (by omega)
   have cj:=cA j cs[j] (List.getElem?_eq_getElem hj);obtain ⟨C,hC⟩:∃ C,cs[j]=C:=⟨_,rfl⟩;rw [hC] at cj;clear q3 q4 N1 cA hC;subst eA
   go_wp2_with fail
   refine (LN.out _).mono ?_
   rintro en w1 ⟨rfl,hb1⟩;have P2:=Ac (Q3.out.below hb1);have D2:=Ac (Q4.out.below hb1);clear hb1 Q3 Q4 y0 y1 y2 y3 yz yf cj lA
   go_wp2_with fail
   go_roundg (cs.length-(j+1))
   case rel=>exact ⟨j+1,by omega,by simp,P2.out,D2.out⟩
   case measure=>omega
  ·obtain rfl:j=cs.length:=by omega
   have hj1:¬ (cs.length:Int)<(cs.length:Int):=by omega
   clear y0 y1 y2 y3 yz yf N1 q3 q4
   go_wp2_with fail
   go_loopg [6] (cs.length+1) (fun g v6 wr=>GM1 w X p tb root c k n lk cs.length cp A S S0 cs Ls g v6 wr)
   case atStart=>exact ⟨0,X,by omega,rfl,Q3.out,Q4.out⟩
   case round =>
    obtain ⟨i,X3,q2,rfl,q5,q6⟩:=hrel;have N1:=q6.nb;obtain ⟨y0,y1,y2,y3⟩:=N1.cells4;have yz:=N1.lt;have yf:=N1.frozen;have P3:=Ac q5;have D3:=Ac q6;clear q5 q6 N1 Q3 Q4
    go_wp2_with fail
    refine (LN.out _).mono ?_
    rintro en w1 ⟨rfl,hb1⟩;have P4:=Ac (P3.out.below hb1);have D4:=Ac (D3.out.below hb1);clear hb1 P3 D3 y0 y1 y2 y3 yz yf;have N1:=D4.out.nb;obtain ⟨y0,y1,y2,y3⟩:=N1.cells4;have yz:=N1.lt;have yf:=N1.frozen;clear N1
    by_cases hi:i<its.length
    ·have hi1:(i:Int)≤(cs.length:Int):=by have:=HC.out;omega
     obtain ⟨l2,hl2,hsub⟩:=HE.out.2.1.at (j:=i) (by rw [List.length_map];exact hi)
     rw [List.getElem_map] at hsub;obtain ⟨q,hq⟩:∃ q,Dz its[i].r=q:=⟨_,rfl⟩;rw [hq] at hsub
     have KC:=Ac (fun W (h:SS W A cs.length cs)=>show Calls Tryz.prog 132 #[.agg #[.int .i64 n,.int .i64 2,.int .i64 lk,.slice A cs.length cp],.int .i64 (i:Nat)] W fun e w'=>e = .returned (.int .i64 q)∧Below W.heap.size W w' from by
      have e9:its=its.take i++its[i] :: its.drop (i+1):=by rw [← List.drop_eq_getElem_cons hi,List.take_append_drop]
      have:=Ie n cs.length cp A its W e9 (by rw [HC.out.2.2.2.1];exact h) (IM0 fun y hy=>⟨(HE.out.1 y hy).1,(HE.out.1 y hy).2.1⟩) (HE.out.1 its[i] (List.getElem_mem _)).2.2 (by omega)
      rw [List.length_take,Nat.min_eq_left (by omega),hq,HC.out.2.2.2.2] at this
      exact this)
     have hP:Ls=Ls.take i++l2 :: Ls.drop (i+1):=by
      obtain ⟨hl9,e9⟩:=List.getElem?_eq_some_iff.1 hl2;rw [← e9,← List.drop_eq_getElem_cons hl9,List.take_append_drop]
     obtain ⟨F,hF⟩:∃ F,(Ls.take i).flatten=F:=⟨_,rfl⟩
     have hPf:Ls.flatten=F++(l2++(Ls.drop (i+1)).flatten):=by
      conv=>lhs;rw [hP]
      rw [List.flatten_append,List.flatten_cons,hF]
     have hT:(Ls.take (i+1)).flatten=F++l2:=by
      rw [List.take_add_one,hl2,List.flatten_append,hF];simp
     have hnd:=HE.out.2.2.1;have hrg:=HE.out.2.2.2;rw [hPf] at hnd hrg;have hnd2:=(List.nodup_append.1 hnd).1;obtain ⟨_,nd3,nd4⟩:=List.nodup_append.1 hnd2;have ndp:=(List.nodup_append.1 nd3).1
     have hps2:∀ y∈l2,0<y∧y<(Ba S F).q∧y∉(Ba S F).fr:=fun y hy=>by
      have:=hrg y (by simp [hy])
      refine ⟨this.1,by rw [Ic];exact this.2.1,fun hm=>?_⟩
      rcases Qk hm with hm | hm
      ·exact nd4 y hm y (by simp [hy]) rfl
      ·exact this.2.2 hm
     have hsub2:Sub (Ba S F).G d q l2:=hsub.congr fun y hy=>BY0 (by have:=(hrg y (by simp [hy])).1;omega) fun hm=>nd4 y hm y (by simp [hy]) rfl
     have hlq:F.length+l2.length≤Ls.flatten.length:=by rw [hPf,List.length_append,List.length_append];omega
     have hlq2:(Ls.flatten++[n]).length=Ls.flatten.length+1:=by simp
     rw [hF] at P4;have LQ:=Ac (And.intro hlq hlq2);obtain ⟨hq1,hq12⟩:=hsub2.pos;have hq2:=hps2 q hq1
     have LD:=Ac (fun W (h:PT W X3 p (Ba S F) S0 (c+2*F.length) (k+1+5*F.length)) (ht:TM W X3 tb p root)=>Gg (n:=q) h ht (by have:=HC.out;have:=LQ.out;omega) (by have:=HC.out;have:=LQ.out;omega) hq2.2.1 (h.ok.pg q hq2.2.1) hq12)
     have DR:=Ac (fun W X A cp (h:PT W X p (Ba S F) S0 (c+2*F.length) (k+1+5*F.length+1)) (ht:TM W X tb p root) hs hr=>HIH.out W X _ _ q cp l2 _ A _ h ht (by have:=HC.out;have:=LQ.out;omega) (by have:=HC.out;have:=LQ.out;omega) hsub2 rfl hs hr ndp hps2)
     obtain ⟨pg,hpg⟩:∃ pg,(Ba S F).G q=pg:=⟨_,rfl⟩;rw [hpg] at LD DR;have HT2:=Ac hT;clear hP hF hPf hT hnd hrg hnd2 nd3 nd4 ndp hps2 hsub2 hsub hlq hlq2 hl2 hq hq1 hq12 hq2 hpg
     go_wp2_with fail
     refine (KC.out _ D4.out.ss).mono ?_
     rintro en w2 ⟨rfl,hb2⟩;have P5:=Ac (P4.out.below hb2);have D5:=Ac (D4.out.below hb2);clear hb2 P4 D4 y0 y1 y2 y3 yz yf
     go_wp2_with fail
     refine (LD.out _ P5.out D5.out.tm).mono ?_
     rintro en w3 ⟨A3,c3,X4,rfl,hp3,ht3,ho3,hx3⟩;have P6:=Ac hp3;have D6:=Ac (D5.out.turn ht3);have O3:=Ac ho3
     have R3:=Ac (show ∀ a,A3=some a→some a.block∉X4∧a.block<w3.heap.size from fun a e=>by
      have e2:(Value.slice A3 pg.2.2.length c3).ownBlock=some a.block:=by rw [e];rfl
      exact ⟨hx3 _ e2,(ho3.lt _ e2).2⟩)
     clear hp3 ht3 ho3 hx3 P5 D5 LD
     go_wp2_with fail
     refine (DR.out _ _ A3 c3 P6.out D6.out.tm (SS.Dv O3.out) R3.out).mono ?_
     rintro en w4 ⟨rfl,X5,hp4,ht4⟩;have P7:=Ac hp4;have D7:=Ac (D6.out.turn ht4);clear hp4 ht4 P6 D6 DR O3 R3
     go_wp2_with fail
     go_roundg (its.length-(i+1))
     case rel =>
      refine ⟨i+1,X5,by have:=HC.out;omega,by simp, ?_,D7.out⟩
      rw [HT2.out,Ru,List.length_append]
      exact P7.out.more (by omega) (by omega)
     case measure=>have:=HC.out;omega
    ·have hi1:¬ (i:Int)≤(cs.length:Int):=by have:=HC.out;omega
     have hTk:Ls.take i=Ls:=List.take_of_length_le (by have:=HE.out.2.1.len;rw [List.length_map] at this;omega)
     rw [hTk] at P4;clear hTk
     go_wp2_with fail
     clear y0 y1 y2 y3 yz yf;have B5:=(Below.refl w1.heap.size w1).drew;have P5:=Ac (P4.out.below B5);have D5:=Ac (D4.out.below B5);have t0:=D4.out.tm.has.cells2.1;have tz:=D4.out.tm.has.lt;have y0:=D4.out.nb.cell 0;have yz:=D4.out.nb.lt
     have hll:(Ls.flatten++[n]).length=Ls.flatten.length+1:=by simp
     have hrn:=HE.out.2.2.2 n (by simp)
     have hnf:n∉(Ba S Ls.flatten).fr:=fun hm=>by
      rcases Qk hm with hm | hm
      ·exact (List.nodup_append.1 HE.out.2.2.1).2.2 n hm n (by simp) rfl
      ·exact hrn.2.2 hm
     have FR:=Ac (Zi (x:=n) P5.out (by have:=HC.out;omega) (by have:=HC.out;omega) hrn.1 (by rw [Ic];exact hrn.2.1) hnf)
     have FE:Ba S (Ls.flatten++[n])=(Ba S Ls.flatten).free n:=by rw [Ru];rfl
     have HFE:=Ac FE;have HLL:=Ac hll;clear B5 P4 D4 hll hrn hnf FE
     go_still_tail 6,(by kernel_rfl)
     change wpList _ _ _ _ _ w1.drew
     go_wp2_with (first
      | (go_at_call 80;(with_reducible refine FR.out.mono ?_);rintro en w3 ⟨rfl,X5,hp5,ht5⟩;have FIN:=Ac (And.intro hp5 (D5.out.tu.trans ht5));clear hp5 ht5)
      | (go_at_call 129;refine (Et _).mono ?_;rintro e w1 ⟨rfl,rfl⟩))
     go_end0
     refine ⟨rfl,X5, ?_,FIN.out.2⟩
     rw [HFE.out]
     exact FIN.out.1.more (by have:=HLL.out;omega) (by have:=HLL.out;omega)
theorem EZ0 {w:World} {tv:Value} {key v:Ky} (hk:1≤key.length∧key.length≤200) (hv:3000<v.length) :
 Calls Tryz.prog 12 #[tv,.string (bsK key),.string (bsK v)] w fun e w'=>e = .returned (.int .i64 8)∧Below w.heap.size w w':=by
 have hmf:∀ (fn:Fn) (first cap:Array Value) (w:World),(Instr.makeFunc fn first cap).run Tryz.prog w = .ok (.func fn first cap) w:=fun _ _ _ _=>rfl
 have RI:=Ac (fun W=>Yv (bsK key) (by rw [Bo];omega) W)
 have e1:decide (1≤(bsK key).size∧(bsK key).size≤200)=true:=by rw [Bo];exact decide_eq_true hk
 rw [e1] at RI;obtain ⟨V,hV⟩:∃ s,bsK v=s:=⟨_,rfl⟩
 have zV:(3000:Int)<(V.size:Int):=by rw [← hV,Bo];omega
 rw [hV]
 go_enter_defers Tryz.func12,Tryz.ntmps12
 go_wp2_with (first | (go_at_call 48;refine (RI.out _).mono ?_;rintro e w1 ⟨rfl,rfl⟩))
 refine leaves_cons (f:=47) (args:=#[.pointer (some ⟨w.heap.size,0,none⟩)]) (by simp) (by simp [go_sem]) ?_
 refine (Ov ⟨w.heap.size,0,none⟩ _).mono ?_
 rintro e u' w'' ⟨rfl,rfl,rfl⟩;simp [Leaves,settle,results,Tryz.results12,go_sem]
 (repeat (first | exact Below.refl _ _ | assumption | (refine Below.setCell ?_ (by first | omega | (simp <;> omega)) _) | refine Below.drew ?_ | (refine Below.alloc ?_ (by first | omega | (simp <;> omega)) _) | (refine Am ?_ (by assumption) (by first | omega | (simp <;> omega)))))
theorem Ji.setRow {W:World} {X:List (Option Nat)} {pb o n kd l i m c g:Nat} {cur:Array Value} {cells:List ByteArray} (h:Ji W X pb o n kd l i m c (some ⟨g,0,none⟩) cur cells) (u:Nat) (s:ByteArray):Ji (W.setCell ⟨g,u,none⟩ (.string s)) X pb o n kd l i m c (some ⟨g,0,none⟩) cur (cells.set u s) :=
 ⟨h.hb.far (p:=⟨g,u,none⟩) (fun e=>(h.rx g rfl).2 e.symm) _,h.c0,h.c1,h.c2,h.c3,h.c4,h.nb,by rw [← HA0];exact PF0 h.row u _,h.rx⟩
theorem IQ0 {α:Type} {l:List α} {j:Nat} {a:α} (h:l[j]? = some a):l.set j a=l:=by
 refine List.ext_getElem? fun k=>?_
 rw [List.getElem?_set]
 by_cases e:j=k
 ·subst e
  rw [if_pos rfl,h,if_pos (List.getElem?_eq_some_iff.1 h).1]
 ·rw [if_neg e]
theorem AS1 {w:World} {X:List (Option Nat)} {base pb cap j n kd l i c g:Nat} {ss:List Stp} {rs:List Ad} {cur:Array Value} {cells:List ByteArray} (h:Kt w X base (.slice (some ⟨pb,0,none⟩) ss.length cap) ss rs) (hs:ss[j]? = some ⟨n,(kd,l,cells),i⟩) (ha:rs[j]? = some (some ⟨g,0,none⟩,c)) (h0:Ji w X pb (5*j) n kd l i cells.length c (some ⟨g,0,none⟩) cur cells) (hbs:base≤w.heap.size) (u:Nat) (s:ByteArray) :
 Kt (w.setCell ⟨g,u,none⟩ (.string s)) X base (.slice (some ⟨pb,0,none⟩) ss.length cap) (ss.set j ⟨n,(kd,l,cells.set u s),i⟩) rs:=by
 have hl:(cells.set u s).length=cells.length:=List.length_set;have k:=h0.setRow u s;have hsame:cur.setIfInBounds (5*j+3) (.slice (some ⟨g,0,none⟩) cells.length c)=cur:=IK0 h0.c3
 have ht:Turn (some pb :: (Value.slice (some ⟨g,0,none⟩) cells.length c).ownBlock :: X) (some pb :: (Value.slice (some ⟨g,0,none⟩) (cells.set u s).length c).ownBlock :: X) w (w.setCell ⟨g,u,none⟩ (.string s)) :=
  ⟨rfl,rfl,rfl,by simp,fun q hq hn=>Below.heap_setCell _ _ _ _ (fun e=>hn (by rw [e];simp [Value.ownBlock])),fun q hq=>.inl hq⟩
 have b:=h.back (A':=some ⟨g,0,none⟩) (c':=c) (cells':=cells.set u s) hs ha rfl (by rw [hl,hsame];exact k) h0 ht (fun q hq=>.inl hq) hbs
 rw [IQ0 ha] at b;exact b
def EZ1 (pb o i n c lo:Nat) (A:Option Addr) (CB:ByteArray):Nat→Value→World→Prop
 | 0,v,_=>v = .pointer (some ⟨pb,o,none⟩)
 | 1,v,_=>v = .pointer (some ⟨pb,o,none⟩)
 | 2,v,_=>v = .pointer (some ⟨pb,o,none⟩)
 | 3,v,_=>v = .pointer (some ⟨pb,o,none⟩)
 | 4,v,_=>v = .pointer (some ⟨pb,o+1,none⟩)
 | 5,v,_=>v = .pointer (some ⟨pb,o+3,none⟩)
 | 6,v,_=>v = .slice A n c
 | 7,v,_=>v = .pointer (some ⟨pb,o,none⟩)
 | 8,v,_=>v = .pointer (some ⟨pb,o,none⟩)
 | 9,v,_=>v = .pointer (some ⟨pb,o+4,none⟩)
 | 10,v,_=>v = .int .i64 i
 | 11,v,_=>v = .string CB
 | 12,v,w=>∃ g,v = .slice (some ⟨g,0,none⟩) 1 1∧Has w g 9 #[.string CB]∧lo≤g
 | _,_,_=>True
theorem BZ0 (pb o i n c lo:Nat) (A:Option Addr) (CB:ByteArray):∀ j v (w w':World),Below w.heap.size w w'→EZ1 pb o i n c lo A CB j v w→EZ1 pb o i n c lo A CB j v w'
 | 0,_,_,_,_,h=>h
 | 1,_,_,_,_,h=>h
 | 2,_,_,_,_,h=>h
 | 3,_,_,_,_,h=>h
 | 4,_,_,_,_,h=>h
 | 5,_,_,_,_,h=>h
 | 6,_,_,_,_,h=>h
 | 7,_,_,_,_,h=>h
 | 8,_,_,_,_,h=>h
 | 9,_,_,_,_,h=>h
 | 10,_,_,_,_,h=>h
 | 11,_,_,_,_,h=>h
 | 12,_,_,_,hb,⟨g,e,hg,hl⟩=>⟨g,e,hg.Aj hb,hl⟩
 | _+13,_,_,_,_,_=>trivial
def Ug (X:List (Option Nat)) (w:World) (p:Nat) (S S0:St) (root c k:Nat) (own:List Nat) (E:List En) (v:Value) (en:Ending) (w':World):Prop :=
 en = .returned v∧∃ S' x' Ds' P' X',PT w' X' p S' S0 (c+120) (k+220)∧Turn X X' w w'∧Qb S' root x' Ds' E P'∧Mv S S' own (Ei [x'] Ds'++P'.flatten)∧(∀ ps∈P',ps.length≤3)∧S'.q≤S.q+21
attribute [local go_sem] Fv Cj Bq Act.put
theorem Uj {c:Code} {K:Act→World→Prop} {Q:Exit→Act→World→Prop} {a:Act} {w:World} (h:c.wp Tryz.prog (Exit.then K (fun _ _ _=>False)) a w):c.wp Tryz.prog (Exit.then K Q) a w :=
 Code.wp_mono (fun e a w h=>by cases e <;> first | exact h | exact False.elim h) h
theorem BI1 {w:World} {X:List (Option Nat)} {tb p root c k:Nat} {S S0:St} {x0:Nd} {Ds0:List (List Nd)} {E:List En} {P:List (List Nat)} {key v:Ky} (h:PT w X p S S0 c k) (ht:TM w X tb p root) (hc:c+400≤60000) (hk:k≤600000000) (hq:S.q≤49000)
 (hs:Qb S root x0 Ds0 E P) (h3:∀ ps∈P,ps.length≤3) (hkey:1≤key.length∧key.length≤200) (hv:v.length≤3000) :
 Calls Tryz.prog 12 #[.pointer (some ⟨tb,0,none⟩),.string (bsK key),.string (bsK v)] w (Ug X w p S S0 root c k (Ei [x0] Ds0++P.flatten) (RK0 key v E) (.int .i64 0)):=by
 have hmf:∀ (fn:Fn) (first cap:Array Value) (w:World),(Instr.makeFunc fn first cap).run Tryz.prog w = .ok (.func fn first cap) w:=fun _ _ _ _=>rfl
 have RI:=Ac (fun W=>Yv (bsK key) (by rw [Bo];omega) W)
 have e1:decide (1≤(bsK key).size∧(bsK key).size≤200)=true:=by rw [Bo];exact decide_eq_true hkey
 rw [e1] at RI;have hok:=h.ok
 have hdep:=CH0 hs.tre (fun q hq=>by have:=hs.rng q (List.mem_append_left _ hq);exact ⟨this.1,this.2.1⟩) (List.nodup_append.1 hs.nd).1 (by omega)
 have DS:=Ac (fun W (h:PT W X p S S0 c k) (ht:TM W X tb p root)=>AA0 h ht (by omega) (by omega) hs.tre hok.pg (fun q hq=>by have:=hs.rng q (List.mem_append_left _ hq);exact ⟨this.1,this.2.1⟩) (by omega) (by omega) key)
 have HP:=Ac h;have HT:=Ac ht;have HS:=Ac hs;have H3:=Ac h3;have OK:=Ac hok;have HKV:=Ac (And.intro hkey hv);have HCK:=Ac (And.intro hc (And.intro hk (And.intro hq (And.intro hdep (And.intro ht.has.lt hok.pos)))))
 have EN:=Ac (fun W X c1 k1 (h:PT W X p S S0 c1 k1) (ht:TM W X tb p root) (hc1:c1+9≤60000) (hk1:k1≤700000000)=>TX0 h ht hc1 hk1 (by omega) hkey.2 hv)
 have zV:¬ (3000:Int)<((bsK v).size:Int):=by rw [Bo];omega
 obtain ⟨K,hK⟩:∃ s,bsK key=s:=⟨_,rfl⟩;obtain ⟨V,hV⟩:∃ s,bsK v=s:=⟨_,rfl⟩;rw [hK] at RI DS EN ⊢;rw [hV] at EN zV ⊢;have HK:=Ac hK;clear h ht hs h3 hkey hv hc hk hq hdep e1 hok hV hK
 go_enter_defers Tryz.func12,Tryz.ntmps12
 go_wp2_with (first | (go_at_call 48;refine (RI.out _).mono ?_;rintro e w1 ⟨rfl,rfl⟩))
 have B0:=Ag w (.cells #[.int .i64 0] 26);have P0:=HP.out.below B0;have M0:=HT.out.below B0;have E0:=Ac (Has.new w 26 #[.int .i64 0])
 have EX:=Ac (show some w.heap.size∉X∧tb<w.heap.size from ⟨fun hm=>by have:=HP.out.lt _ hm;omega,HT.out.has.lt⟩)
 have U0:=Ac (Turn.below X B0);have Z0:(w.alloc (.cells #[.int .i64 0] 26)).heap.size=w.heap.size+1:=World.size_alloc _ _;clear B0 HP HT;obtain ⟨eb,heb⟩:∃ n,w.heap.size=n:=⟨_,rfl⟩;have HEB:=Ac heb;rw [heb] at E0 EX Z0 ⊢
 generalize w.alloc (.cells #[.int .i64 0] 26)=W0 at *
 have HZ0:=Ac Z0
 refine (DS.out W0 P0 M0).mono ?_
 rintro en w1 ⟨A,x,B,ups,rs,X1,v1,dn,ab,ak,hl,htop,rfl,hp1,ht1,pa1⟩;rw [Z0] at pa1;obtain ⟨D,hD⟩:∃ n,Ds0.length=n:=⟨_,rfl⟩;rw [hD] at hl hp1 HCK
 have hsl:(Gw ups++[lfS key B x]).length=D+1:=by rw [List.length_append,Ce,hl];rfl
 have s1:(Gw ups++[lfS key B x])[D]? = some (lfS key B x):=by rw [List.getElem?_append_right (by rw [Ce];omega),Ce,hl,Nat.sub_self];rfl
 obtain ⟨pb,cap,cur,a,rfl,ha,hbp,hcz,st⟩:=pa1.step s1;rw [hsl] at pa1 hcz ⊢;rw [Nat.mul_comm 5 D] at st;have PA1:=Ac pa1;have ST1:=Ac st;have P1:=Ac hp1;have M1:=Ac (M0.turn ht1);have U1:=Ac (ht1);have DN:=Ac dn;have AB:=Ac ab;have AK:=Ac ak;have HL:=Ac (And.intro hl (And.intro htop (And.intro hD (And.intro hsl s1))));have HA:=Ac (And.intro ha (And.intro hbp hcz));clear dn ab ak hl htop hp1 ht1 pa1 hsl s1 ha hbp hcz DS RI P0 M0 hD heb
 obtain ⟨i,hi⟩:∃ n,cnt key false x.its=n:=⟨_,rfl⟩;obtain ⟨cs,hcs⟩:∃ l,x.its.map Af=l:=⟨_,rfl⟩;have es:(lfS key B x).pg.2.2=cs:=hcs;have ei:(lfS key B x).i=i:=hi;have HIC:=Ac (And.intro hi hcs);obtain ⟨hb,hhb⟩:∃ l,hdN B 0=l:=⟨_,rfl⟩
 have st:Ji w1 X1 pb (D*5) x.n 1 hb i cs.length a.2 a.1 cur cs:=by rw [← es,← ei,← hhb];exact ST1.out
 have HB:=Ac hhb;clear ST1 es ei hi hcs hhb
 have i1:(D:Int)<(D:Int)+1:=by omega
 have d20:D≤15:=HCK.out.2.2.2.1
 go_wp2_with fail
 refine (EN.out w1 X1 _ _ P1.out M1.out (by have:=HCK.out;omega) (by have:=HCK.out;omega)).mono ?_
 rintro en w2 ⟨it,S2,ps,X2,rfl,hik,hiv,mv2,hp3,hq2,hp2,ht2⟩;have P2:=Ac hp2;have M2:=Ac (M1.out.turn ht2);have U2:=Ac (U1.out.trans ht2);have PA2:=Ac (PA1.out.turn ht2);have ST2:=Ac (st.turn ht2);have IV:=Ac (And.intro hik (And.intro hiv (And.intro mv2 (And.intro hp3 hq2))));clear hp2 ht2 P1 M1 U1 PA1 st hik hiv mv2 hp3 hq2 EN;obtain ⟨g0,g1,g2,g3,g4⟩:=ST2.out.at5;have gz:=ST2.out.hb.lt;have gf:=ST2.out.hb.frozen
 obtain ⟨CB,hCB⟩:∃ v,Af it=v:=⟨_,rfl⟩;rw [hCB];have HCB:=Ac hCB;clear hCB;have hent:=HS.out.ent;have htl:=BB0 (Ds:=[]) AB.out;have hperm:=DP0 (Ds:=[]) AB.out;rw [HL.out.2.1] at htl hperm;rw [htl] at hent;have ENT:=Ac hent
 have PERM:=Ac (show (Ei [x0] Ds0).Perm (Eh (A++x :: B) [] ups) from hperm)
 have NZ:=Ac (show (Eh (A++x :: B) [] ups).Nodup∧∀ p∈Eh (A++x :: B) [] ups,p≠0 from ⟨PERM.out.nodup_iff.1 (List.nodup_append.1 HS.out.nd).1,fun p hp=>by have:=(HS.out.rng p (List.mem_append_left _ (PERM.out.mem_iff.2 hp))).1;omega⟩)
 clear hent htl hperm
 by_cases hz:i<cs.length
 ·have hz1:(i:Int)<(cs.length:Int):=by omega
  have zc:decide ((i:Int)<(cs.length:Int))=true:=decide_eq_true hz1
  have hzl:i<x.its.length:=by rw [← HIC.out.2,List.length_map] at hz;exact hz
  obtain ⟨jt,hjt⟩:∃ t,x.its[i]=t:=⟨_,rfl⟩
  have hcj:cs[i]? = some (Af jt):=by rw [← HIC.out.2,List.getElem?_map,List.getElem?_eq_getElem hzl,hjt];rfl
  have hss:=ST2.out.ss
  have hjk:jt.k.length≤200∧jt.r.length≤300:=by
   have q:=Dwn.sz DN.out (x:=x) (by simp) (i:=jt) (by rw [← hjt];exact List.getElem_mem _)
   have q2:=q.1;unfold szI at q2
   exact ⟨q.2.1,by omega⟩
  have KO:=Ac (fun W n=>((Po jt hjk.1 (by omega) (World.drewN W n)).mono (R':=fun e w'=>e = .returned (.string (bsK jt.k))∧w'=W.drewN n) (by rintro e w' ⟨rfl,rfl⟩;exact ⟨rfl,rfl⟩)))
  obtain ⟨CJ,hCJ⟩:∃ v,Af jt=v:=⟨_,rfl⟩;rw [hCJ] at KO hcj
  obtain ⟨gr,off,ar,gl,lc⟩:=hss.2 (by omega)
  have lci:=lc i CJ hcj
  obtain ⟨cu2,cpr,hgr,hn1,hn2,ho⟩:∃ cu2 cpr,Has w2 gr 9 cu2∧cs.length≤cu2.size∧cpr=a.2∧off=0:=by
   rcases ST2.out.row.2 with ⟨q1,q2⟩ | ⟨g',cap',cur',q1,q2,q3,q4,q5,q6,q7⟩
   ·injection q1 with q1 q8;rw [q1] at ar;cases ar
   ·injection q1 with q1 q8 q9
    rw [ar] at q1
    injection q1 with q1
    injection q1 with q1 q10
    exact ⟨cur',a.2,by rw [q1];exact q3,by omega,rfl,q10⟩
  subst ho
  have hcu:cu2[i]? = some (.string CJ):=(hgr.cell i).symm.trans (by have:=lc i CJ hcj;rwa [Nat.zero_add] at this)
  rw [Nat.zero_add] at lci;rw [ar] at g3
  by_cases hjk2:jt.k=key
  ·rw [hjk2,HK.out] at KO
   go_wp2_with fail
   go_quiet ((go_at_call 51;refine Calls.quiet_of_same (KO.out _ _)))
   go_wp2_with fail
   have B3:=below_drewN (Below.refl w2.heap.size w2) nq;have P3:=Ac (P2.out.below B3);have M3:=Ac (M2.out.below B3);have U3:=Ac (U2.out.next B3);have PA3:=Ac (PA2.out.below B3);have ST3:=Ac (ST2.out.below B3);have HG3:=Ac (hgr.Aj B3);clear P2 M2 U2 PA2 ST2 g0 g1 g2 g3 g4 gz gf B3 lci lc hgr hss KO gl
   generalize w2.drewN nq=w3 at *
   obtain ⟨g0,g1,g2,g3,g4⟩:=ST3.out.at5;rw [ar] at g3;have gz:=ST3.out.hb.lt;have lci:=(HG3.out.cell i).trans hcu;have gl:=HG3.out.lt
   obtain ⟨E1,u,E2,P1,q,P2,hE,hP,f1,f2,f3,f4,f5⟩:=QH0 DN.out AK.out HIC.out.1 hzl (by rw [hjt];exact hjk2) ENT.out
   rw [hjt] at f2
   have PRE:=Ac (HL0 OK.out HS.out PERM.out (F1:=P1.flatten) (q:=q) (F2:=P2.flatten) (by rw [hP];simp) IV.out.2.2.1)
   have q3:q.length≤3:=H3.out q (by rw [hP];simp)
   have f22:ItV S2.G jt u q:=f2.congr (fun y hy=>PRE.out.g2 y (by simp [hy]))
   have LP:=GW0 (j:=i+1) (it:=it) DN.out AB.out AK.out HIC.out.1 (Nat.le_succ i) NZ.out.1 NZ.out.2 IV.out.1 HKV.out.1 (IV.out.2.1.sz (by rw [IV.out.1];exact HKV.out.1.2)) (NQ0 DN.out AK.out HIC.out.1 hzl (by rw [hjt,hjk2];exact Qs _))
   have PD:=Ac (And.intro (LP.1.congr (G':=(Ba S2 q).G) (fun y hy=>by
    rw [LP.2] at hy
    rw [PRE.out.g3 y (by simp [hy]),PRE.out.g2 y (by simp [hy])])) LP.2)
   have B4:=(Below.refl w3.heap.size w3).drew;have P4:=Ac (P3.out.below B4);have M4:=Ac (M3.out.below B4);have U4:=Ac (U3.out.next B4);have PA4:=Ac (PA3.out.below B4);have ST4:=Ac (ST3.out.below B4);have HG4:=Ac (HG3.out.Aj B4)
   have RS:=Ac (AL0 P4.out M4.out (by have:=HCK.out;omega) (by have:=HCK.out;omega) hjk.1 f22 q3 PRE.out.qn PRE.out.qr)
   rw [hCJ] at RS;have HEP:=Ac (And.intro hE (And.intro hP (And.intro f1 (And.intro f3 (And.intro f4 f5)))));have HJ:=Ac (And.intro hjt (And.intro hjk2 hzl));have HCJ:=Ac hCJ;have AR:=Ac ar;have HCU:=Ac hcu;clear P3 M3 U3 PA3 ST3 HG3 B4 hE hP f1 f2 f3 f4 f5 f22 LP q3 hjt hjk2 hCJ ar hcu hjk hcj
   go_still_tail 13,(by kernel_rfl)
   change wpList _ _ _ _ _ w3.drew
   go_wp2_with (go_at_call 52;(with_reducible refine RS.out.mono ?_);rintro en w4 ⟨rfl,X4,hp4,ht4⟩;have P5:=Ac hp4;have M5:=Ac (M4.out.turn ht4);have U5:=Ac (U4.out.trans ht4);have PA5:=Ac (PA4.out.turn ht4);have ST5:=Ac (ST4.out.turn ht4);have GX:=Ac (ST5.out.rx gr (by rw [AR.out];rfl));have HG5:=Ac (ht4.has HG4.out (ST4.out.rx gr (by rw [AR.out];rfl)).1);clear hp4 ht4 P4 M4 U4 PA4 ST4 HG4 RS;obtain ⟨g0,g1,g2,g3,g4⟩:=ST5.out.at5;rw [AR.out] at g3;have gz:=ST5.out.hb.lt;have gl:=HG5.out.lt;have gf:=HG5.out.frozen;have lci:=(HG5.out.cell i).trans HCU.out)
   have B6:=(Below.refl w4.heap.size w4).drew;have HG6:=HG5.out.Aj B6;have ST6:=ST5.out.below B6;have PA6:=PA5.out.below B6
   have hbw:eb+1≤w4.drew.heap.size:=by have:=U5.out.size;have:=HZ0.out;show eb+1≤w4.heap.size;omega
   have tbl:=EX.out.2;obtain ⟨hl1,htop1,hD1,hsl1,s11⟩:=HL.out
   have es11:lfS key B x=⟨x.n,(1,hb,cs),i⟩:=by
    unfold lfS lfP;rw [HIC.out.1,HIC.out.2,HB.out]
   have ha1:=HA.out.1;have ea1:a=(some ⟨gr,0,none⟩,a.2):=Prod.ext AR.out rfl;rw [ea1] at ha1;rw [AR.out,Nat.mul_comm D 5] at ST6
   have PA7:=AS1 (cap:=cap) (by rw [hsl1];exact PA6) (by rw [s11,es11]) ha1 ST6 hbw i CB
   have P7:=(P5.out.below B6).set GX.out.1 i (.string CB);have grge:eb+1≤gr:=(PA6.rows.lt _ (List.mem_of_getElem? ha1) gr rfl).1
   have M7:=(M5.out.below B6).set (g:=gr) (by omega) i (.string CB)
   have U7:=(U5.out.next B6).Di (g:=gr) (by rw [HZ0.out];exact grge) i (.string CB)
   rw [hsl1] at PA7;have s3q:=Ic q S2
   have ST7:=Ac (Rk (w0:=W0) (X0:=X) (i:=i) (N:=D+1) (D:=D) P7 M7 (by have:=HCK.out;omega) (by have:=HCK.out;omega) (by have:=HCK.out;have:=IV.out;omega) (by omega) PD.out.1 (by rw [PD.out.2];exact PRE.out.n3.sublist ((List.sublist_append_left _ _).append (List.Sublist.refl _))) (by
    rw [PD.out.2];intro y hy
    rcases List.mem_append.1 hy with hy | hy
    ·exact PRE.out.r3 y (by simp [hy])
    ·exact PRE.out.r3 y (by simp [hy])) U7 (by rw [HZ0.out];exact PA7) (by
    rw [hl1,← hsl1,← List.length_set,List.take_length]
    rw [List.set_append_right _ _ (by rw [Ce];omega),Ce,hl1,Nat.sub_self]
    show Gw ups++[_]=Gw ups++[_]
    congr 2
    show (⟨x.n,(1,hb,cs.set i CB),i⟩:Stp)=⟨x.n,(1,hdN B 0,(x.its.take i++it :: x.its.drop (i+1)).map Af),i⟩
    rw [HB.out,← HIC.out.2,← HCB.out,List.map_append,List.map_cons,List.map_take,List.map_drop,List.set_eq_take_append_cons_drop,if_pos (by rw [List.length_map];exact hzl)]) hl1 (by rw [List.length_set];exact hsl1) rfl (by have:=HZ0.out;omega))
   clear B6 HG6 ST6 PA6 hbw hl1 htop1 hD1 hsl1 s11 es11 ha1 ea1 PA7 P7 M7 U7 grge s3q tbl
   go_still_tail 11,(by kernel_rfl)
   change wpList _ _ _ _ _ w4.drew
   go_wp2_with fail
   refine ST7.out.mono ?_
   rintro en w7 ⟨rfl,S7,x7,Ds7,X7,hp7,ht7,tr7,lf7,mv7,q7⟩
   have FIN:=Ac (show Ug X w p S S0 root c k (Ei [x0] Ds0++P.flatten) (RK0 key v E) (.int .i64 0) (.returned (.int .i64 0)) (w7.setCell ⟨eb,0,none⟩ (.int .i64 0)) from by
    obtain ⟨hE,hP,f1,f3,f4,f5⟩:=HEP.out;rw [PD.out.2] at mv7;have em:Mc S2.G [it] [(key,v)] [ps]:=⟨IV.out.1,IV.out.2.1,trivial⟩
    have pp:=BP0 PRE.out mv7 tr7 (I1:=A.flatMap (·.its)++x.its.take i) (I2:=x.its.drop (i+1)++B.flatMap (·.its)) (M:=[it]) (lf7.trans (by
     show (A++_ :: B).flatMap (·.its)=_
     rw [List.flatMap_append,List.flatMap_cons];simp)) f1 f3 em (by simp)
    have s3q:=Ic q S2
    refine ⟨rfl,S7,x7,Ds7,_,X7,(hp7.set (ht7.out EX.out.1 E0.out.lt) 0 _).more (by have:=HCK.out;omega) (by have:=HCK.out;omega),(U0.out.trans ht7).Di (by rw [HEB.out];exact Nat.le_refl _) 0 _, ?_,pp.2, ?_,by have:=IV.out;have:=HCK.out;omega⟩
    ·rw [hE,(GZ0 f4 f5).1];exact pp.1
    ·intro r hr
     rcases List.mem_append.1 hr with hr | hr
     ·exact H3.out r (by rw [hP];simp [hr])
     ·rcases List.mem_append.1 hr with hr | hr
      ·rw [List.mem_singleton.1 hr];exact IV.out.2.2.2.1
      ·exact H3.out r (by rw [hP];simp [hr]))
   have E7:=ht7.has E0.out EX.out.1;have e0:=E7.cell 0;have ef:=E7.frozen;have ez:=E7.lt;clear hp7 ht7 tr7 lf7 mv7 q7 E7
   go_wp2_with fail
   refine leaves_cons (f:=47) (args:=#[.pointer (some ⟨eb,0,none⟩)]) (by simp) (by simp [go_sem]) ?_
   refine (Ov ⟨eb,0,none⟩ _).mono ?_
   rintro e u' w'' ⟨rfl,rfl,rfl⟩;simp [Leaves,settle,results,Tryz.results12,go_sem,ez,ef,e0];exact FIN.out
  have hKK:((bsK jt.k).toList == K.toList)=false:=by
   rw [← HK.out,Lib.toList_data,Lib.toList_data,Dn,Dn,beq_eq_false_iff_ne];exact hjk2
  obtain ⟨KJ,hKJ⟩:∃ v,bsK jt.k=v:=⟨_,rfl⟩;rw [hKJ] at hKK KO
  go_wp2_with fail
  go_quiet ((go_at_call 51;refine Calls.quiet_of_same (KO.out _ _)))
  go_wp2_with fail
  have HNK:=Ac (show ∀ hl:i<x.its.length,¬ x.its[i].k=key from fun hl=>by rw [hjt];exact hjk2)
  clear lci lc hgr hss KO gl hcu hKK ar;have B3:=below_drewN (Below.refl w2.heap.size w2) nq;have P3:=Ac (P2.out.below B3);have M3:=Ac (M2.out.below B3);have U3:=Ac (U2.out.next B3);have PA3:=Ac (PA2.out.below B3);have ST3:=Ac (ST2.out.below B3);clear P2 M2 U2 PA2 ST2 g0 g1 g2 g3 g4 gz gf B3
  generalize w2.drewN nq=w3 at *
  obtain ⟨p0,p1,p2,p3,p4⟩:=ST3.out.at5;have pz:=ST3.out.hb.lt;obtain ⟨E1,E2,P1,P2,hE,hP,f1,f3,f4,f5,f6⟩:=BO0 DN.out AK.out HIC.out.1 HNK.out ENT.out
  have PRE:=Ac (HL0 OK.out HS.out PERM.out (F1:=P1.flatten) (q:=[]) (F2:=P2.flatten) (by rw [hP];simp) IV.out.2.2.1)
  have LP:=GW0 (j:=i) (it:=it) DN.out AB.out AK.out HIC.out.1 (Nat.le_refl i) NZ.out.1 NZ.out.2 IV.out.1 HKV.out.1 (IV.out.2.1.sz (by rw [IV.out.1];exact HKV.out.1.2)) f6
  have PD:=Ac (And.intro (LP.1.congr (G':=S2.G) (fun y hy=>by
   rw [LP.2] at hy
   exact PRE.out.g2 y (List.mem_append_left _ hy))) LP.2)
  have HEP:=Ac (And.intro hE (And.intro hP (And.intro f1 (And.intro f3 (And.intro f4 f5)))))
  have c300:cs.length≤300:=by
   have h6:=LP.1.le;have h7:=Fz (x.its.take i++it :: x.its.drop i);have h8:Ai (x.its.take i++it :: x.its.drop i)≤1256:=h6;rw [List.length_append,List.length_cons,List.length_take,List.length_drop] at h7;rw [← HIC.out.2,List.length_map];omega
  have ci:i≤cs.length:=by rw [← HIC.out.2,List.length_map,← HIC.out.1];exact cnt_le _ _ _
  clear hE hP f1 f3 f4 f5 f6 LP
  refine Uj ?_
  refine Ib 12 (.pointer (some ⟨pb,D*5,none⟩)) (Cls (w3)) (EZ1 pb (D*5) i cs.length a.2 w3.heap.size a.1 CB) (by kernel_rfl) (by kernel_rfl) (by kernel_rfl) (by kernel_rfl) (by kernel_rfl) (by kernel_rfl) (fun _ _ hC hb=>Cls.step hC hb) ?hst (Cls.start _) (fun _ _ _ h=>h) ?hy ?hp0 ?hops ?hend
  case hy=>exact Or.inl ⟨by rfl,fun w=>by (go_simp;first | done | (with_reducible rfl))⟩
  case hp0=>exact fun _=>rfl
  case hst=>exact BZ0 _ _ _ _ _ _ _ _
  case hops =>
   intro us wx hus hC
   obtain ⟨u0,u1,u2,u3,u4,u5,u6,u7,u8,u9,u10,u11,u12,rfl⟩:∃ u0 u1 u2 u3 u4 u5 u6 u7 u8 u9 u10 u11 u12,us=[u0,u1,u2,u3,u4,u5,u6,u7,u8,u9,u10,u11,u12]:=by
    match us,hus with
    | [u0,u1,u2,u3,u4,u5,u6,u7,u8,u9,u10,u11,u12],_=>exact ⟨u0,u1,u2,u3,u4,u5,u6,u7,u8,u9,u10,u11,u12,rfl⟩
   clear hus;simp only [Bq,Act.put,List.take_succ_cons,List.take_zero,List.setIfInBounds_toArray,List.set_cons_zero,List.set_cons_succ]
   refine ⟨fun h=>?_,fun h=>?_,fun h=>?_,fun h=>?_,fun h=>?_,fun h=>?_,fun h=>?_,fun h=>?_,fun h=>?_,fun h=>?_,fun h=>?_,fun h=>?_,fun h=>?_,trivial⟩
   ·(clear h;refine Ae rfl ?_;go_simp;exact ⟨Below.refl _ _,rfl⟩)
   ·(clear h;refine Ae rfl ?_;go_simp;exact ⟨Below.refl _ _,rfl⟩)
   ·obtain rfl:=h 1 rfl
    (clear h;refine Ae rfl ?_;go_simp;exact ⟨Below.refl _ _,rfl⟩)
   ·obtain rfl:=h 2 rfl
    (clear h;refine Ae rfl ?_;go_simp;exact ⟨Below.refl _ _,rfl⟩)
   ·obtain rfl:=h 3 rfl
    (clear h;refine Ae rfl ?_;go_simp;exact ⟨Below.refl _ _,rfl⟩)
   ·obtain rfl:=h 4 rfl
    (clear h;refine Ae rfl ?_;go_simp;exact ⟨Below.refl _ _,rfl⟩)
   ·obtain rfl:=h 5 rfl
    (clear h;refine Ae rfl ?_;obtain ⟨hc,hf⟩:=hC.facts;go_simp;exact ⟨Below.refl _ _,rfl⟩)
   ·(clear h;refine Ae rfl ?_;go_simp;exact ⟨Below.refl _ _,rfl⟩)
   ·obtain rfl:=h 7 rfl
    (clear h;refine Ae rfl ?_;go_simp;exact ⟨Below.refl _ _,rfl⟩)
   ·obtain rfl:=h 8 rfl
    (clear h;refine Ae rfl ?_;go_simp;exact ⟨Below.refl _ _,rfl⟩)
   ·obtain rfl:=h 9 rfl
    (clear h;refine Ae rfl ?_;obtain ⟨hc,hf⟩:=hC.facts;go_simp;exact ⟨Below.refl _ _,rfl⟩)
   ·(clear h;refine Ae rfl ?_;go_simp;exact ⟨Below.refl _ _,rfl⟩)
   ·obtain rfl:=h 11 rfl
    (clear h;refine Ae rfl ?_;go_simp;exact ⟨(Below.refl _ _).alloc (Nat.le_refl _) _,_,rfl,Has.new _ _ _,hC.bel.size⟩)
  case hend =>
  intro us wx hus hC
  obtain ⟨u0,u1,u2,u3,u4,u5,u6,u7,u8,u9,u10,u11,u12,rfl⟩:∃ u0 u1 u2 u3 u4 u5 u6 u7 u8 u9 u10 u11 u12,us=[u0,u1,u2,u3,u4,u5,u6,u7,u8,u9,u10,u11,u12]:=by
   match us,hus with
   | [u0,u1,u2,u3,u4,u5,u6,u7,u8,u9,u10,u11,u12],_=>exact ⟨u0,u1,u2,u3,u4,u5,u6,u7,u8,u9,u10,u11,u12,rfl⟩
  clear hus;intro hall;obtain ⟨h0,h1,h2,h3,h4,h5,h6,h7,h8,h9,h10,h11,h12,_⟩:=hall;obtain ⟨gc,rfl,hgc,glo⟩:=h12;obtain rfl:=h0;obtain rfl:=h6;obtain rfl:=h10;have P4:=Ac (P3.out.below hC.bel);have M4:=Ac (M3.out.below hC.bel);have U4:=Ac (U3.out.next hC.bel);have PA4:=Ac (PA3.out.below hC.bel);have ST4:=Ac (ST3.out.below hC.bel)
  have INS:=Ac (Nb (i:=i) ST4.out.row ci hgc (fun e=>by have:=(ST3.out.row.lt gc e).2;omega) (by omega) (Nat.zero_le _))
  clear h1 h2 h3 h4 h5 h7 h8 h9 h11 hC hgc glo p0 p1 p2 p3 p4 pz P3 M3 U3 PA3 ST3;simp only [Bq,Act.put,List.take_succ_cons,List.take_zero,List.drop_succ_cons,List.drop_zero,List.setIfInBounds_toArray,List.set_cons_zero,List.set_cons_succ]
  go_wp2_with (go_at_call 53;(with_reducible refine INS.out.mono ?_);rintro en w11 ⟨v11,rfl,ho11,hg11,hat11⟩;obtain ⟨A11,c11,rfl,hc11⟩:=Bd ho11;have HO11:=Ac ho11;have HG11:=Ac hg11;have HA11:=Ac hat11;have nru:=Ac (show Has w11 pb 122 cur from (hg11.block pb ST4.out.hb.lt (fun e=>(ST4.out.rx pb e.symm).2 rfl)).trans ST4.out.hb);clear ho11 hg11 hat11;have pf:=nru.out.frozen;have pz:=nru.out.lt;have p3:w11.cell? ⟨pb,D*5+3,none⟩=some (.slice a.1 cs.length a.2):=(nru.out.cell _).trans ST4.out.c3)
  have hbw:eb+1≤wx.heap.size:=by have:=U4.out.size;have:=HZ0.out;omega
  have tbl:=EX.out.2;obtain ⟨hl1,htop1,hD1,hsl1,s11⟩:=HL.out
  have es11:lfS key B x=⟨x.n,(1,hb,cs),i⟩:=by
   unfold lfS lfP;rw [HIC.out.1,HIC.out.2,HB.out]
  have s12:=s11.trans (congrArg some es11);have PA4':=PA4.out;rw [← hsl1] at PA4'
  have e11:∀ g,(Value.slice A11 (cs.length+1) c11).ownBlock=some g→some g∉X2∧g≠pb:=fun g hg=>by
   rcases HA11.out with e | e
   ·exact ST4.out.rx g (by rw [← e];exact hg)
   ·have e5:g=wx.heap.size:=Option.some.inj (hg.symm.trans e)
    exact ⟨fun hm=>by have:=P4.out.lt g hm;omega,by have:=ST4.out.hb.lt;omega⟩
  have hat11:∀ g,(Value.slice A11 (cs.length+1) c11).ownBlock=some g→(Value.slice a.1 cs.length a.2).ownBlock=some g∨wx.heap.size≤g:=fun g hg=>by
   rcases HA11.out with e | e
   ·exact .inl (by rw [← e];exact hg)
   ·have e5:g=wx.heap.size:=Option.some.inj (hg.symm.trans e)
    exact .inr (by omega)
  have hsz11:D*5+3<cur.size:=by have:=HA.out.2.2;omega
  have st11:=ST4.out.put nru.out hsz11 HO11.out e11;have tu11:=Vz (pb:=pb) (v':=.slice A11 (cs.length+1) c11) (Turn.refl X2 wx) HG11.out hat11 (D*5+3) (.slice A11 (cs.length+1) c11)
  have rge:∀ g,(Value.slice a.1 cs.length a.2).ownBlock=some g→eb+1≤g:=fun g hg=>(PA4.out.rows.lt a (List.mem_of_getElem? HA.out.1) g ((Gf (⟨x.n,(1,hb,cs),i⟩:Stp) a).symm.trans hg)).1
  have pge:eb+1≤pb:=(PA4.out.own.lt pb rfl).1
  have M12:TM (w11.setCell ⟨pb,D*5+3,none⟩ (.slice A11 (cs.length+1) c11)) X2 tb p root:=(M4.out.grown HG11.out (fun e=>by have:=rge tb e.symm;omega)).set (by omega) _ _
  have P12:=(P4.out.grown HG11.out (fun g hg=>(ST4.out.rx g hg).1)).set ST4.out.nb (D*5+3) (.slice A11 (cs.length+1) c11)
  have U12:Turn X X2 W0 (w11.setCell ⟨pb,D*5+3,none⟩ (.slice A11 (cs.length+1) c11)):=U4.out.loc tu11 (fun g hg=>by
   have z0:=HZ0.out
   rcases List.mem_cons.1 hg with e | hg
   ·exact .inr (by have:g=pb:=Option.some.inj e;omega)
   ·rcases List.mem_cons.1 hg with e | hg
    ·exact .inr (by have:=rge g e.symm;omega)
    ·exact .inl hg) (fun g hg=>List.mem_cons_of_mem _ (List.mem_cons_of_mem _ hg))
  obtain ⟨cells',hcl'⟩:∃ l,cs.take i++CB :: cs.drop i=l:=⟨_,rfl⟩
  have hll:cells'.length=cs.length+1:=by
   rw [← hcl',List.length_append,List.length_take,List.length_cons,List.length_drop];omega
  rw [hcl'] at st11;rw [← hll] at st11 tu11 hat11 M12 P12 U12 ⊢;have ST4':=ST4.out;rw [Nat.mul_comm D 5] at ST4' st11 tu11;have PA12:=PA4'.back (j:=D) (n:=x.n) (kd:=1) (l:=hb) (i:=i) (cells:=cs) (A:=a.1) (c:=a.2) s12 HA.out.1 rfl st11 ST4' tu11 hat11 hbw;rw [hsl1,Nat.mul_comm 5 D] at PA12
  have ST7:=Ac (Rk (w0:=W0) (X0:=X) (i:=i) (N:=D+1) (D:=D) P12 M12 (by have:=HCK.out;omega) (by have:=HCK.out;omega) (by have:=HCK.out;have:=IV.out;omega) (by omega) PD.out.1 (by rw [PD.out.2];exact PRE.out.n3.sublist ((List.sublist_append_left _ _).append (List.Sublist.refl _))) (by
   rw [PD.out.2];intro y hy
   rcases List.mem_append.1 hy with hy | hy
   ·exact PRE.out.r3 y (List.mem_append_left _ (List.mem_append_left _ hy))
   ·exact PRE.out.r3 y (List.mem_append_right _ hy)) U12 (by rw [HZ0.out];exact PA12) (by
   rw [hl1,← hsl1,← List.length_set,List.take_length]
   rw [List.set_append_right _ _ (by rw [Ce];omega),Ce,hl1,Nat.sub_self]
   show Gw ups++[_]=Gw ups++[_]
   congr 2
   show (⟨x.n,(1,hb,cells'),i⟩:Stp)=⟨x.n,(1,hdN B 0,(x.its.take i++it :: x.its.drop i).map Af),i⟩
   rw [HB.out,← hcl',← HIC.out.2,← HCB.out,List.map_append,List.map_cons,List.map_take,List.map_drop]) hl1 (by rw [List.length_set];exact hsl1) rfl (by have:=HZ0.out;omega))
  clear hbw tbl hl1 htop1 hD1 hsl1 s11 s12 es11 PA4' e11 hat11 hsz11 st11 tu11 rge pge M12 P12 U12 hcl' ST4' PA12
  refine ST7.out.mono ?_
  rintro en w7 ⟨rfl,S7,x7,Ds7,X7,hp7,ht7,tr7,lf7,mv7,q7⟩
  have FIN:=Ac (show Ug X w p S S0 root c k (Ei [x0] Ds0++P.flatten) (RK0 key v E) (.int .i64 0) (.returned (.int .i64 0)) (w7.setCell ⟨eb,0,none⟩ (.int .i64 0)) from by
   obtain ⟨hE,hP,f1,f3,f4,f5⟩:=HEP.out;rw [PD.out.2] at mv7;have em:Mc S2.G [it] [(key,v)] [ps]:=⟨IV.out.1,IV.out.2.1,trivial⟩
   have pp:=BP0 PRE.out mv7 tr7 (I1:=A.flatMap (·.its)++x.its.take i) (I2:=x.its.drop i++B.flatMap (·.its)) (M:=[it]) (lf7.trans (by
    show (A++_ :: B).flatMap (·.its)=_
    rw [List.flatMap_append,List.flatMap_cons];simp)) f1 f3 em (by simp)
   refine ⟨rfl,S7,x7,Ds7,_,X7,(hp7.set (ht7.out EX.out.1 E0.out.lt) 0 _).more (by have:=HCK.out;omega) (by have:=HCK.out;omega),(U0.out.trans ht7).Di (by rw [HEB.out];exact Nat.le_refl _) 0 _, ?_,pp.2, ?_,by have:=IV.out;have:=HCK.out;omega⟩
   ·rw [hE,(Zu f4 f5).1];exact pp.1
   ·intro r hr
    rcases List.mem_append.1 hr with hr | hr
    ·exact H3.out r (by rw [hP];simp [hr])
    ·rcases List.mem_append.1 hr with hr | hr
     ·rw [List.mem_singleton.1 hr];exact IV.out.2.2.2.1
     ·exact H3.out r (by rw [hP];simp [hr]))
  have E7:=ht7.has E0.out EX.out.1;have e0:=E7.cell 0;have ef:=E7.frozen;have ez:=E7.lt;clear hp7 ht7 tr7 lf7 mv7 q7 E7
  go_wp2_with fail
  refine leaves_cons (f:=47) (args:=#[.pointer (some ⟨eb,0,none⟩)]) (by simp) (by simp [go_sem]) ?_
  refine (Ov ⟨eb,0,none⟩ _).mono ?_
  rintro e u' w'' ⟨rfl,rfl,rfl⟩;simp [Leaves,settle,results,Tryz.results12,go_sem,ez,ef,e0];exact FIN.out
 have zc:decide ((i:Int)<(cs.length:Int))=false:=decide_eq_false (by omega)
 go_wp2_with fail
 go_quiet (fail)
 go_wp2_with fail
 have HNK:=Ac (show ∀ hl:i<x.its.length,¬ x.its[i].k=key from fun hl=>absurd (by rw [← HIC.out.2,List.length_map];exact hl) hz)
 have B3:=below_drewN (Below.refl w2.heap.size w2) nq;have P3:=Ac (P2.out.below B3);have M3:=Ac (M2.out.below B3);have U3:=Ac (U2.out.next B3);have PA3:=Ac (PA2.out.below B3);have ST3:=Ac (ST2.out.below B3);clear P2 M2 U2 PA2 ST2 g0 g1 g2 g3 g4 gz gf B3
 generalize w2.drewN nq=w3 at *
 obtain ⟨p0,p1,p2,p3,p4⟩:=ST3.out.at5;have pz:=ST3.out.hb.lt;obtain ⟨E1,E2,P1,P2,hE,hP,f1,f3,f4,f5,f6⟩:=BO0 DN.out AK.out HIC.out.1 HNK.out ENT.out
 have PRE:=Ac (HL0 OK.out HS.out PERM.out (F1:=P1.flatten) (q:=[]) (F2:=P2.flatten) (by rw [hP];simp) IV.out.2.2.1)
 have LP:=GW0 (j:=i) (it:=it) DN.out AB.out AK.out HIC.out.1 (Nat.le_refl i) NZ.out.1 NZ.out.2 IV.out.1 HKV.out.1 (IV.out.2.1.sz (by rw [IV.out.1];exact HKV.out.1.2)) f6
 have PD:=Ac (And.intro (LP.1.congr (G':=S2.G) (fun y hy=>by
  rw [LP.2] at hy
  exact PRE.out.g2 y (List.mem_append_left _ hy))) LP.2)
 have HEP:=Ac (And.intro hE (And.intro hP (And.intro f1 (And.intro f3 (And.intro f4 f5)))))
 have c300:cs.length≤300:=by
  have h6:=LP.1.le;have h7:=Fz (x.its.take i++it :: x.its.drop i);have h8:Ai (x.its.take i++it :: x.its.drop i)≤1256:=h6;rw [List.length_append,List.length_cons,List.length_take,List.length_drop] at h7;rw [← HIC.out.2,List.length_map];omega
 have ci:i≤cs.length:=by rw [← HIC.out.2,List.length_map,← HIC.out.1];exact cnt_le _ _ _
 clear hE hP f1 f3 f4 f5 f6 LP
 refine Uj ?_
 refine Ib 12 (.pointer (some ⟨pb,D*5,none⟩)) (Cls (w3)) (EZ1 pb (D*5) i cs.length a.2 w3.heap.size a.1 CB) (by kernel_rfl) (by kernel_rfl) (by kernel_rfl) (by kernel_rfl) (by kernel_rfl) (by kernel_rfl) (fun _ _ hC hb=>Cls.step hC hb) ?hst (Cls.start _) (fun _ _ _ h=>h) ?hy ?hp0 ?hops ?hend
 case hy=>exact Or.inl ⟨by rfl,fun w=>by (go_simp;first | done | (with_reducible rfl))⟩
 case hp0=>exact fun _=>rfl
 case hst=>exact BZ0 _ _ _ _ _ _ _ _
 case hops =>
  intro us wx hus hC
  obtain ⟨u0,u1,u2,u3,u4,u5,u6,u7,u8,u9,u10,u11,u12,rfl⟩:∃ u0 u1 u2 u3 u4 u5 u6 u7 u8 u9 u10 u11 u12,us=[u0,u1,u2,u3,u4,u5,u6,u7,u8,u9,u10,u11,u12]:=by
   match us,hus with
   | [u0,u1,u2,u3,u4,u5,u6,u7,u8,u9,u10,u11,u12],_=>exact ⟨u0,u1,u2,u3,u4,u5,u6,u7,u8,u9,u10,u11,u12,rfl⟩
  clear hus;simp only [Bq,Act.put,List.take_succ_cons,List.take_zero,List.setIfInBounds_toArray,List.set_cons_zero,List.set_cons_succ]
  refine ⟨fun h=>?_,fun h=>?_,fun h=>?_,fun h=>?_,fun h=>?_,fun h=>?_,fun h=>?_,fun h=>?_,fun h=>?_,fun h=>?_,fun h=>?_,fun h=>?_,fun h=>?_,trivial⟩
  ·(clear h;refine Ae rfl ?_;go_simp;exact ⟨Below.refl _ _,rfl⟩)
  ·(clear h;refine Ae rfl ?_;go_simp;exact ⟨Below.refl _ _,rfl⟩)
  ·obtain rfl:=h 1 rfl
   (clear h;refine Ae rfl ?_;go_simp;exact ⟨Below.refl _ _,rfl⟩)
  ·obtain rfl:=h 2 rfl
   (clear h;refine Ae rfl ?_;go_simp;exact ⟨Below.refl _ _,rfl⟩)
  ·obtain rfl:=h 3 rfl
   (clear h;refine Ae rfl ?_;go_simp;exact ⟨Below.refl _ _,rfl⟩)
  ·obtain rfl:=h 4 rfl
   (clear h;refine Ae rfl ?_;go_simp;exact ⟨Below.refl _ _,rfl⟩)
  ·obtain rfl:=h 5 rfl
   (clear h;refine Ae rfl ?_;obtain ⟨hc,hf⟩:=hC.facts;go_simp;exact ⟨Below.refl _ _,rfl⟩)
  ·(clear h;refine Ae rfl ?_;go_simp;exact ⟨Below.refl _ _,rfl⟩)
  ·obtain rfl:=h 7 rfl
   (clear h;refine Ae rfl ?_;go_simp;exact ⟨Below.refl _ _,rfl⟩)
  ·obtain rfl:=h 8 rfl
   (clear h;refine Ae rfl ?_;go_simp;exact ⟨Below.refl _ _,rfl⟩)
  ·obtain rfl:=h 9 rfl
   (clear h;refine Ae rfl ?_;obtain ⟨hc,hf⟩:=hC.facts;go_simp;exact ⟨Below.refl _ _,rfl⟩)
  ·(clear h;refine Ae rfl ?_;go_simp;exact ⟨Below.refl _ _,rfl⟩)
  ·obtain rfl:=h 11 rfl
   (clear h;refine Ae rfl ?_;go_simp;exact ⟨(Below.refl _ _).alloc (Nat.le_refl _) _,_,rfl,Has.new _ _ _,hC.bel.size⟩)
 case hend =>
 intro us wx hus hC
 obtain ⟨u0,u1,u2,u3,u4,u5,u6,u7,u8,u9,u10,u11,u12,rfl⟩:∃ u0 u1 u2 u3 u4 u5 u6 u7 u8 u9 u10 u11 u12,us=[u0,u1,u2,u3,u4,u5,u6,u7,u8,u9,u10,u11,u12]:=by
  match us,hus with
  | [u0,u1,u2,u3,u4,u5,u6,u7,u8,u9,u10,u11,u12],_=>exact ⟨u0,u1,u2,u3,u4,u5,u6,u7,u8,u9,u10,u11,u12,rfl⟩
 clear hus;intro hall;obtain ⟨h0,h1,h2,h3,h4,h5,h6,h7,h8,h9,h10,h11,h12,_⟩:=hall;obtain ⟨gc,rfl,hgc,glo⟩:=h12;obtain rfl:=h0;obtain rfl:=h6;obtain rfl:=h10;have P4:=Ac (P3.out.below hC.bel);have M4:=Ac (M3.out.below hC.bel);have U4:=Ac (U3.out.next hC.bel);have PA4:=Ac (PA3.out.below hC.bel);have ST4:=Ac (ST3.out.below hC.bel)
 have INS:=Ac (Nb (i:=i) ST4.out.row ci hgc (fun e=>by have:=(ST3.out.row.lt gc e).2;omega) (by omega) (Nat.zero_le _))
 clear h1 h2 h3 h4 h5 h7 h8 h9 h11 hC hgc glo p0 p1 p2 p3 p4 pz P3 M3 U3 PA3 ST3;simp only [Bq,Act.put,List.take_succ_cons,List.take_zero,List.drop_succ_cons,List.drop_zero,List.setIfInBounds_toArray,List.set_cons_zero,List.set_cons_succ]
 go_wp2_with (go_at_call 53;(with_reducible refine INS.out.mono ?_);rintro en w11 ⟨v11,rfl,ho11,hg11,hat11⟩;obtain ⟨A11,c11,rfl,hc11⟩:=Bd ho11;have HO11:=Ac ho11;have HG11:=Ac hg11;have HA11:=Ac hat11;have nru:=Ac (show Has w11 pb 122 cur from (hg11.block pb ST4.out.hb.lt (fun e=>(ST4.out.rx pb e.symm).2 rfl)).trans ST4.out.hb);clear ho11 hg11 hat11;have pf:=nru.out.frozen;have pz:=nru.out.lt;have p3:w11.cell? ⟨pb,D*5+3,none⟩=some (.slice a.1 cs.length a.2):=(nru.out.cell _).trans ST4.out.c3)
 have hbw:eb+1≤wx.heap.size:=by have:=U4.out.size;have:=HZ0.out;omega
 have tbl:=EX.out.2;obtain ⟨hl1,htop1,hD1,hsl1,s11⟩:=HL.out
 have es11:lfS key B x=⟨x.n,(1,hb,cs),i⟩:=by
  unfold lfS lfP;rw [HIC.out.1,HIC.out.2,HB.out]
 have s12:=s11.trans (congrArg some es11);have PA4':=PA4.out;rw [← hsl1] at PA4'
 have e11:∀ g,(Value.slice A11 (cs.length+1) c11).ownBlock=some g→some g∉X2∧g≠pb:=fun g hg=>by
  rcases HA11.out with e | e
  ·exact ST4.out.rx g (by rw [← e];exact hg)
  ·have e5:g=wx.heap.size:=Option.some.inj (hg.symm.trans e)
   exact ⟨fun hm=>by have:=P4.out.lt g hm;omega,by have:=ST4.out.hb.lt;omega⟩
 have hat11:∀ g,(Value.slice A11 (cs.length+1) c11).ownBlock=some g→(Value.slice a.1 cs.length a.2).ownBlock=some g∨wx.heap.size≤g:=fun g hg=>by
  rcases HA11.out with e | e
  ·exact .inl (by rw [← e];exact hg)
  ·have e5:g=wx.heap.size:=Option.some.inj (hg.symm.trans e)
   exact .inr (by omega)
 have hsz11:D*5+3<cur.size:=by have:=HA.out.2.2;omega
 have st11:=ST4.out.put nru.out hsz11 HO11.out e11;have tu11:=Vz (pb:=pb) (v':=.slice A11 (cs.length+1) c11) (Turn.refl X2 wx) HG11.out hat11 (D*5+3) (.slice A11 (cs.length+1) c11)
 have rge:∀ g,(Value.slice a.1 cs.length a.2).ownBlock=some g→eb+1≤g:=fun g hg=>(PA4.out.rows.lt a (List.mem_of_getElem? HA.out.1) g ((Gf (⟨x.n,(1,hb,cs),i⟩:Stp) a).symm.trans hg)).1
 have pge:eb+1≤pb:=(PA4.out.own.lt pb rfl).1
 have M12:TM (w11.setCell ⟨pb,D*5+3,none⟩ (.slice A11 (cs.length+1) c11)) X2 tb p root:=(M4.out.grown HG11.out (fun e=>by have:=rge tb e.symm;omega)).set (by omega) _ _
 have P12:=(P4.out.grown HG11.out (fun g hg=>(ST4.out.rx g hg).1)).set ST4.out.nb (D*5+3) (.slice A11 (cs.length+1) c11)
 have U12:Turn X X2 W0 (w11.setCell ⟨pb,D*5+3,none⟩ (.slice A11 (cs.length+1) c11)):=U4.out.loc tu11 (fun g hg=>by
  have z0:=HZ0.out
  rcases List.mem_cons.1 hg with e | hg
  ·exact .inr (by have:g=pb:=Option.some.inj e;omega)
  ·rcases List.mem_cons.1 hg with e | hg
   ·exact .inr (by have:=rge g e.symm;omega)
   ·exact .inl hg) (fun g hg=>List.mem_cons_of_mem _ (List.mem_cons_of_mem _ hg))
 obtain ⟨cells',hcl'⟩:∃ l,cs.take i++CB :: cs.drop i=l:=⟨_,rfl⟩
 have hll:cells'.length=cs.length+1:=by
  rw [← hcl',List.length_append,List.length_take,List.length_cons,List.length_drop];omega
 rw [hcl'] at st11;rw [← hll] at st11 tu11 hat11 M12 P12 U12 ⊢;have ST4':=ST4.out;rw [Nat.mul_comm D 5] at ST4' st11 tu11;have PA12:=PA4'.back (j:=D) (n:=x.n) (kd:=1) (l:=hb) (i:=i) (cells:=cs) (A:=a.1) (c:=a.2) s12 HA.out.1 rfl st11 ST4' tu11 hat11 hbw;rw [hsl1,Nat.mul_comm 5 D] at PA12
 have ST7:=Ac (Rk (w0:=W0) (X0:=X) (i:=i) (N:=D+1) (D:=D) P12 M12 (by have:=HCK.out;omega) (by have:=HCK.out;omega) (by have:=HCK.out;have:=IV.out;omega) (by omega) PD.out.1 (by rw [PD.out.2];exact PRE.out.n3.sublist ((List.sublist_append_left _ _).append (List.Sublist.refl _))) (by
  rw [PD.out.2];intro y hy
  rcases List.mem_append.1 hy with hy | hy
  ·exact PRE.out.r3 y (List.mem_append_left _ (List.mem_append_left _ hy))
  ·exact PRE.out.r3 y (List.mem_append_right _ hy)) U12 (by rw [HZ0.out];exact PA12) (by
  rw [hl1,← hsl1,← List.length_set,List.take_length]
  rw [List.set_append_right _ _ (by rw [Ce];omega),Ce,hl1,Nat.sub_self]
  show Gw ups++[_]=Gw ups++[_]
  congr 2
  show (⟨x.n,(1,hb,cells'),i⟩:Stp)=⟨x.n,(1,hdN B 0,(x.its.take i++it :: x.its.drop i).map Af),i⟩
  rw [HB.out,← hcl',← HIC.out.2,← HCB.out,List.map_append,List.map_cons,List.map_take,List.map_drop]) hl1 (by rw [List.length_set];exact hsl1) rfl (by have:=HZ0.out;omega))
 clear hbw tbl hl1 htop1 hD1 hsl1 s11 s12 es11 PA4' e11 hat11 hsz11 st11 tu11 rge pge M12 P12 U12 hcl' ST4' PA12
 refine ST7.out.mono ?_
 rintro en w7 ⟨rfl,S7,x7,Ds7,X7,hp7,ht7,tr7,lf7,mv7,q7⟩
 have FIN:=Ac (show Ug X w p S S0 root c k (Ei [x0] Ds0++P.flatten) (RK0 key v E) (.int .i64 0) (.returned (.int .i64 0)) (w7.setCell ⟨eb,0,none⟩ (.int .i64 0)) from by
  obtain ⟨hE,hP,f1,f3,f4,f5⟩:=HEP.out;rw [PD.out.2] at mv7;have em:Mc S2.G [it] [(key,v)] [ps]:=⟨IV.out.1,IV.out.2.1,trivial⟩
  have pp:=BP0 PRE.out mv7 tr7 (I1:=A.flatMap (·.its)++x.its.take i) (I2:=x.its.drop i++B.flatMap (·.its)) (M:=[it]) (lf7.trans (by
   show (A++_ :: B).flatMap (·.its)=_
   rw [List.flatMap_append,List.flatMap_cons];simp)) f1 f3 em (by simp)
  refine ⟨rfl,S7,x7,Ds7,_,X7,(hp7.set (ht7.out EX.out.1 E0.out.lt) 0 _).more (by have:=HCK.out;omega) (by have:=HCK.out;omega),(U0.out.trans ht7).Di (by rw [HEB.out];exact Nat.le_refl _) 0 _, ?_,pp.2, ?_,by have:=IV.out;have:=HCK.out;omega⟩
  ·rw [hE,(Zu f4 f5).1];exact pp.1
  ·intro r hr
   rcases List.mem_append.1 hr with hr | hr
   ·exact H3.out r (by rw [hP];simp [hr])
   ·rcases List.mem_append.1 hr with hr | hr
    ·rw [List.mem_singleton.1 hr];exact IV.out.2.2.2.1
    ·exact H3.out r (by rw [hP];simp [hr]))
 have E7:=ht7.has E0.out EX.out.1;have e0:=E7.cell 0;have ef:=E7.frozen;have ez:=E7.lt;clear hp7 ht7 tr7 lf7 mv7 q7 E7
 go_wp2_with fail
 refine leaves_cons (f:=47) (args:=#[.pointer (some ⟨eb,0,none⟩)]) (by simp) (by simp [go_sem]) ?_
 refine (Ov ⟨eb,0,none⟩ _).mono ?_
 rintro e u' w'' ⟨rfl,rfl,rfl⟩;simp [Leaves,settle,results,Tryz.results12,go_sem,ez,ef,e0];exact FIN.out
def delS (pb o n c:Nat) (i:Int) (A:Option Addr):Nat→Value→World→Prop
 | 0,v,_=>v = .pointer (some ⟨pb,o,none⟩)
 | 1,v,_=>v = .pointer (some ⟨pb,o,none⟩)
 | 2,v,_=>v = .pointer (some ⟨pb,o,none⟩)
 | 3,v,_=>v = .pointer (some ⟨pb,o,none⟩)
 | 4,v,_=>v = .pointer (some ⟨pb,o+1,none⟩)
 | 5,v,_=>v = .pointer (some ⟨pb,o+3,none⟩)
 | 6,v,_=>v = .slice A n c
 | 7,v,_=>v = .pointer (some ⟨pb,o,none⟩)
 | 8,v,_=>v = .pointer (some ⟨pb,o,none⟩)
 | 9,v,_=>v = .pointer (some ⟨pb,o+4,none⟩)
 | 10,v,_=>v = .int .i64 i
 | 11,v,_=>v = .pointer (some ⟨pb,o,none⟩)
 | 12,v,_=>v = .pointer (some ⟨pb,o,none⟩)
 | 13,v,_=>v = .pointer (some ⟨pb,o+4,none⟩)
 | 14,v,_=>v = .int .i64 i
 | 15,v,_=>v = .int .i64 (IntKind.i64.wrap (i+1))
 | _,_,_=>True
theorem ON0 (pb o n c:Nat) (i:Int) (A:Option Addr):∀ j v (w w':World),Below w.heap.size w w'→delS pb o n c i A j v w→delS pb o n c i A j v w'
 | 0,_,_,_,_,h=>h
 | 1,_,_,_,_,h=>h
 | 2,_,_,_,_,h=>h
 | 3,_,_,_,_,h=>h
 | 4,_,_,_,_,h=>h
 | 5,_,_,_,_,h=>h
 | 6,_,_,_,_,h=>h
 | 7,_,_,_,_,h=>h
 | 8,_,_,_,_,h=>h
 | 9,_,_,_,_,h=>h
 | 10,_,_,_,_,h=>h
 | 11,_,_,_,_,h=>h
 | 12,_,_,_,_,h=>h
 | 13,_,_,_,_,h=>h
 | 14,_,_,_,_,h=>h
 | 15,_,_,_,_,h=>h
 | _+16,_,_,_,_,_=>trivial
theorem ND0 {w:World} {X:List (Option Nat)} {tb p root c k:Nat} {S S0:St} {x0:Nd} {Ds0:List (List Nd)} {E:List En} {P:List (List Nat)} {key:Ky} (h:PT w X p S S0 c k) (ht:TM w X tb p root) (hc:c+400≤60000) (hk:k≤600000000) (hq:S.q≤49000)
 (hs:Qb S root x0 Ds0 E P) (h3:∀ ps∈P,ps.length≤3) (hkey:1≤key.length∧key.length≤200) :
 Calls Tryz.prog 13 #[.pointer (some ⟨tb,0,none⟩),.string (bsK key)] w (Ug X w p S S0 root c k (Ei [x0] Ds0++P.flatten) (RS0 key E) (.tuple #[.bool (isE key E),.int .i64 0])):=by
 have hmf:∀ (fn:Fn) (first cap:Array Value) (w:World),(Instr.makeFunc fn first cap).run Tryz.prog w = .ok (.func fn first cap) w:=fun _ _ _ _=>rfl
 have RI:=Ac (fun W=>Yv (bsK key) (by rw [Bo];omega) W)
 have e1:decide (1≤(bsK key).size∧(bsK key).size≤200)=true:=by rw [Bo];exact decide_eq_true hkey
 rw [e1] at RI;have hok:=h.ok
 have hdep:=CH0 hs.tre (fun q hq=>by have:=hs.rng q (List.mem_append_left _ hq);exact ⟨this.1,this.2.1⟩) (List.nodup_append.1 hs.nd).1 (by omega)
 have DS:=Ac (fun W (h:PT W X p S S0 c k) (ht:TM W X tb p root)=>AA0 h ht (by omega) (by omega) hs.tre hok.pg (fun q hq=>by have:=hs.rng q (List.mem_append_left _ hq);exact ⟨this.1,this.2.1⟩) (by omega) (by omega) key)
 have HP:=Ac h;have HT:=Ac ht;have HS:=Ac hs;have H3:=Ac h3;have OK:=Ac hok;have HKV:=Ac (hkey);have HCK:=Ac (And.intro hc (And.intro hk (And.intro hq (And.intro hdep (And.intro ht.has.lt hok.pos)))));obtain ⟨K,hK⟩:∃ s,bsK key=s:=⟨_,rfl⟩;rw [hK] at RI DS ⊢;have HK:=Ac hK;clear h ht hs h3 hkey hc hk hq hdep e1 hok hK
 go_enter_defers Tryz.func13,Tryz.ntmps13
 go_wp2_with (first | (go_at_call 48;refine (RI.out _).mono ?_;rintro e w1 ⟨rfl,rfl⟩))
 have B0:=Ag w (.cells #[.int .i64 0] 26);have P0:=HP.out.below B0;have M0:=HT.out.below B0;have E0:=Ac (Has.new w 26 #[.int .i64 0])
 have EX:=Ac (show some w.heap.size∉X∧tb<w.heap.size from ⟨fun hm=>by have:=HP.out.lt _ hm;omega,HT.out.has.lt⟩)
 have U0:=Ac (Turn.below X B0);have Z0:(w.alloc (.cells #[.int .i64 0] 26)).heap.size=w.heap.size+1:=World.size_alloc _ _;clear B0 HP HT;obtain ⟨eb,heb⟩:∃ n,w.heap.size=n:=⟨_,rfl⟩;have HEB:=Ac heb;rw [heb] at E0 EX Z0 ⊢
 generalize w.alloc (.cells #[.int .i64 0] 26)=W0 at *
 have HZ0:=Ac Z0
 refine (DS.out W0 P0 M0).mono ?_
 rintro en w2 ⟨A,x,B,ups,rs,X2,v1,dn,ab,ak,hl,htop,rfl,hp1,ht1,pa1⟩;rw [Z0] at pa1;obtain ⟨D,hD⟩:∃ n,Ds0.length=n:=⟨_,rfl⟩;rw [hD] at hl hp1 HCK
 have hsl:(Gw ups++[lfS key B x]).length=D+1:=by rw [List.length_append,Ce,hl];rfl
 have s1:(Gw ups++[lfS key B x])[D]? = some (lfS key B x):=by rw [List.getElem?_append_right (by rw [Ce];omega),Ce,hl,Nat.sub_self];rfl
 obtain ⟨pb,cap,cur,a,rfl,ha,hbp,hcz,st⟩:=pa1.step s1;rw [hsl] at pa1 hcz ⊢;rw [Nat.mul_comm 5 D] at st;have PA1:=Ac pa1;have ST1:=Ac st;have P1:=Ac hp1;have M1:=Ac (M0.turn ht1);have U1:=Ac (ht1);have DN:=Ac dn;have AB:=Ac ab;have AK:=Ac ak;have HL:=Ac (And.intro hl (And.intro htop (And.intro hD (And.intro hsl s1))));have HA:=Ac (And.intro ha (And.intro hbp hcz));clear dn ab ak hl htop hp1 ht1 pa1 hsl s1 ha hbp hcz DS RI P0 M0 hD heb
 obtain ⟨i,hi⟩:∃ n,cnt key false x.its=n:=⟨_,rfl⟩;obtain ⟨cs,hcs⟩:∃ l,x.its.map Af=l:=⟨_,rfl⟩;have es:(lfS key B x).pg.2.2=cs:=hcs;have ei:(lfS key B x).i=i:=hi;have HIC:=Ac (And.intro hi hcs);obtain ⟨hb,hhb⟩:∃ l,hdN B 0=l:=⟨_,rfl⟩
 have st:Ji w2 X2 pb (D*5) x.n 1 hb i cs.length a.2 a.1 cur cs:=by rw [← es,← ei,← hhb];exact ST1.out
 have HB:=Ac hhb;clear ST1 es ei hi hcs hhb
 have i1:(D:Int)<(D:Int)+1:=by omega
 have d20:D≤15:=HCK.out.2.2.2.1
 go_wp2_with fail
 have P2:=P1;have M2:=M1;have U2:=U1;have PA2:=PA1;have ST2:=Ac st;clear P1 M1 U1 PA1 st;obtain ⟨g0,g1,g2,g3,g4⟩:=ST2.out.at5;have gz:=ST2.out.hb.lt;have gf:=ST2.out.hb.frozen;have hent:=HS.out.ent;have htl:=BB0 (Ds:=[]) AB.out;have hperm:=DP0 (Ds:=[]) AB.out;rw [HL.out.2.1] at htl hperm;rw [htl] at hent;have ENT:=Ac hent
 have PERM:=Ac (show (Ei [x0] Ds0).Perm (Eh (A++x :: B) [] ups) from hperm)
 have NZ:=Ac (show (Eh (A++x :: B) [] ups).Nodup∧∀ p∈Eh (A++x :: B) [] ups,p≠0 from ⟨PERM.out.nodup_iff.1 (List.nodup_append.1 HS.out.nd).1,fun p hp=>by have:=(HS.out.rng p (List.mem_append_left _ (PERM.out.mem_iff.2 hp))).1;omega⟩)
 clear hent htl hperm
 have ci:i≤cs.length:=by rw [← HIC.out.2,List.length_map,← HIC.out.1];exact cnt_le _ _ _
 by_cases hz:i<cs.length
 ·have hz1:(i:Int)<(cs.length:Int):=by omega
  have zc:((i:Int) == (cs.length:Int))=false:=by rw [beq_eq_false_iff_ne];omega
  have hzl:i<x.its.length:=by rw [← HIC.out.2,List.length_map] at hz;exact hz
  obtain ⟨jt,hjt⟩:∃ t,x.its[i]=t:=⟨_,rfl⟩
  have hcj:cs[i]? = some (Af jt):=by rw [← HIC.out.2,List.getElem?_map,List.getElem?_eq_getElem hzl,hjt];rfl
  have hss:=ST2.out.ss
  have hjk:jt.k.length≤200∧jt.r.length≤300:=by
   have q:=Dwn.sz DN.out (x:=x) (by simp) (i:=jt) (by rw [← hjt];exact List.getElem_mem _)
   have q2:=q.1;unfold szI at q2
   exact ⟨q.2.1,by omega⟩
  have KO:=Ac (fun W n=>((Po jt hjk.1 (by omega) (World.drewN W n)).mono (R':=fun e w'=>e = .returned (.string (bsK jt.k))∧w'=W.drewN n) (by rintro e w' ⟨rfl,rfl⟩;exact ⟨rfl,rfl⟩)))
  obtain ⟨CJ,hCJ⟩:∃ v,Af jt=v:=⟨_,rfl⟩;rw [hCJ] at hcj
  obtain ⟨gr,off,ar,gl,lc⟩:=hss.2 (by omega)
  have lci:=lc i CJ hcj
  obtain ⟨cu2,cpr,hgr,hn1,hn2,ho⟩:∃ cu2 cpr,Has w2 gr 9 cu2∧cs.length≤cu2.size∧cpr=a.2∧off=0:=by
   rcases ST2.out.row.2 with ⟨q1,q2⟩ | ⟨g',cap',cur',q1,q2,q3,q4,q5,q6,q7⟩
   ·injection q1 with q1 q8;rw [q1] at ar;cases ar
   ·injection q1 with q1 q8 q9
    rw [ar] at q1
    injection q1 with q1
    injection q1 with q1 q10
    exact ⟨cur',a.2,by rw [q1];exact q3,by omega,rfl,q10⟩
  subst ho
  have hcu:cu2[i]? = some (.string CJ):=(hgr.cell i).symm.trans (by have:=lc i CJ hcj;rwa [Nat.zero_add] at this)
  rw [Nat.zero_add] at lci;rw [ar] at g3;rw [hCJ] at KO
  by_cases hjk2:jt.k=key
  ·rw [hjk2,HK.out] at KO
   go_quiet ((go_at_call 51;refine Calls.quiet_of_same (KO.out _ _)))
   go_wp2_with fail
   have B3:=below_drewN (Below.refl w2.heap.size w2) nq;have P3:=Ac (P2.out.below B3);have M3:=Ac (M2.out.below B3);have U3:=Ac (U2.out.next B3);have PA3:=Ac (PA2.out.below B3);have ST3:=Ac (ST2.out.below B3);have HG3:=Ac (hgr.Aj B3);clear P2 M2 U2 PA2 ST2 g0 g1 g2 g3 g4 gz gf B3 lci lc hgr hss KO gl
   generalize w2.drewN nq=w3 at *
   obtain ⟨g0,g1,g2,g3,g4⟩:=ST3.out.at5;rw [ar] at g3;have gz:=ST3.out.hb.lt;have lci:=(HG3.out.cell i).trans hcu;have gl:=HG3.out.lt
   obtain ⟨E1,u,E2,P1,q,P2,hE,hP,f1,f2,f3,f4,f5⟩:=QH0 DN.out AK.out HIC.out.1 hzl (by rw [hjt];exact hjk2) ENT.out
   rw [hjt] at f2
   have PRE:=Ac (HL0 OK.out HS.out PERM.out (F1:=P1.flatten) (q:=q) (F2:=P2.flatten) (by rw [hP];simp) (Mv.refl S []))
   have q3:q.length≤3:=H3.out q (by rw [hP];simp)
   have LP:=YX0 DN.out AB.out NZ.out.1 NZ.out.2 i
   have PD:=Ac (And.intro (LP.1.congr (G':=(Ba S q).G) (fun y hy=>by
    rw [LP.2] at hy
    rw [PRE.out.g3 y (by simp [hy])])) LP.2)
   have c300:cs.length≤300:=by
    have h8:Ai (x.its.take i++x.its.drop (i+1))≤1256:=LP.1.le;have h7:=Fz (x.its.take i++x.its.drop (i+1));rw [List.length_append,List.length_take,List.length_drop] at h7;rw [← HIC.out.2,List.length_map];omega
   have B4:=(Below.refl w3.heap.size w3).drew;have P4:=Ac (P3.out.below B4);have M4:=Ac (M3.out.below B4);have U4:=Ac (U3.out.next B4);have PA4:=Ac (PA3.out.below B4);have ST4:=Ac (ST3.out.below B4)
   have RS:=Ac (AL0 P4.out M4.out (by have:=HCK.out;omega) (by have:=HCK.out;omega) hjk.1 f2 q3 PRE.out.qn PRE.out.qr)
   rw [hCJ] at RS;have HEP:=Ac (And.intro hE (And.intro hP (And.intro f1 (And.intro f3 (And.intro f4 f5)))));have HJ:=Ac (And.intro hjt (And.intro hjk2 hzl));clear P3 M3 U3 PA3 ST3 HG3 B4 hE hP f1 f2 f3 f4 f5 LP q3 hjt hjk2 hCJ hcu hjk hcj
   go_still_tail 13,(by kernel_rfl)
   change wpList _ _ _ _ _ w3.drew
   clear ar
   go_wp2_with (go_at_call 52;(with_reducible refine RS.out.mono ?_);rintro en w4 ⟨rfl,X4,hp4,ht4⟩;have P5:=Ac hp4;have M5:=Ac (M4.out.turn ht4);have U5:=Ac (U4.out.trans ht4);have PA5:=Ac (PA4.out.turn ht4);have ST5:=Ac (ST4.out.turn ht4);clear hp4 ht4 P4 M4 U4 PA4 ST4 RS g0 g1 g2 g3 g4 gz lci gl;obtain ⟨p0,p1,p2,p3,p4⟩:=ST5.out.at5;have pz:=ST5.out.hb.lt)
   refine Uj ?_
   refine Ib 15 (.pointer (some ⟨pb,D*5,none⟩)) (Cls (w4)) (delS pb (D*5) cs.length a.2 (i:Int) a.1) (by kernel_rfl) (by kernel_rfl) (by kernel_rfl) (by kernel_rfl) (by kernel_rfl) (by kernel_rfl) (fun _ _ hC hb=>Cls.step hC hb) ?hst (Cls.start _) (fun _ _ _ h=>h) ?hy ?hp0 ?hops ?hend
   case hy=>exact Or.inl ⟨by rfl,fun w=>by (go_simp;first | done | (with_reducible rfl))⟩
   case hp0=>exact fun _=>rfl
   case hst=>exact ON0 _ _ _ _ _ _
   case hops =>
    intro us wx hus hC
    obtain ⟨u0,u1,u2,u3,u4,u5,u6,u7,u8,u9,u10,u11,u12,u13,u14,u15,rfl⟩:∃ u0 u1 u2 u3 u4 u5 u6 u7 u8 u9 u10 u11 u12 u13 u14 u15,us=[u0,u1,u2,u3,u4,u5,u6,u7,u8,u9,u10,u11,u12,u13,u14,u15]:=by
     match us,hus with
     | [u0,u1,u2,u3,u4,u5,u6,u7,u8,u9,u10,u11,u12,u13,u14,u15],_=>exact ⟨u0,u1,u2,u3,u4,u5,u6,u7,u8,u9,u10,u11,u12,u13,u14,u15,rfl⟩
    clear hus;simp only [Bq,Act.put,List.take_succ_cons,List.take_zero,List.setIfInBounds_toArray,List.set_cons_zero,List.set_cons_succ]
    refine ⟨fun h=>?_,fun h=>?_,fun h=>?_,fun h=>?_,fun h=>?_,fun h=>?_,fun h=>?_,fun h=>?_,fun h=>?_,fun h=>?_,fun h=>?_,fun h=>?_,fun h=>?_,fun h=>?_,fun h=>?_,fun h=>?_,trivial⟩
    ·(clear h;refine Ae rfl ?_;go_simp;exact ⟨Below.refl _ _,rfl⟩)
    ·(clear h;refine Ae rfl ?_;go_simp;exact ⟨Below.refl _ _,rfl⟩)
    ·obtain rfl:=h 1 rfl
     (clear h;refine Ae rfl ?_;go_simp;exact ⟨Below.refl _ _,rfl⟩)
    ·obtain rfl:=h 2 rfl
     (clear h;refine Ae rfl ?_;go_simp;exact ⟨Below.refl _ _,rfl⟩)
    ·obtain rfl:=h 3 rfl
     (clear h;refine Ae rfl ?_;go_simp;exact ⟨Below.refl _ _,rfl⟩)
    ·obtain rfl:=h 4 rfl
     (clear h;refine Ae rfl ?_;go_simp;exact ⟨Below.refl _ _,rfl⟩)
    ·obtain rfl:=h 5 rfl
     (clear h;refine Ae rfl ?_;obtain ⟨hc,hf⟩:=hC.facts;go_simp;exact ⟨Below.refl _ _,rfl⟩)
    ·(clear h;refine Ae rfl ?_;go_simp;exact ⟨Below.refl _ _,rfl⟩)
    ·obtain rfl:=h 7 rfl
     (clear h;refine Ae rfl ?_;go_simp;exact ⟨Below.refl _ _,rfl⟩)
    ·obtain rfl:=h 8 rfl
     (clear h;refine Ae rfl ?_;go_simp;exact ⟨Below.refl _ _,rfl⟩)
    ·obtain rfl:=h 9 rfl
     (clear h;refine Ae rfl ?_;obtain ⟨hc,hf⟩:=hC.facts;go_simp;exact ⟨Below.refl _ _,rfl⟩)
    ·(clear h;refine Ae rfl ?_;go_simp;exact ⟨Below.refl _ _,rfl⟩)
    ·obtain rfl:=h 11 rfl
     (clear h;refine Ae rfl ?_;go_simp;exact ⟨Below.refl _ _,rfl⟩)
    ·obtain rfl:=h 12 rfl
     (clear h;refine Ae rfl ?_;go_simp;exact ⟨Below.refl _ _,rfl⟩)
    ·obtain rfl:=h 13 rfl
     (clear h;refine Ae rfl ?_;obtain ⟨hc,hf⟩:=hC.facts;go_simp;exact ⟨Below.refl _ _,rfl⟩)
    ·obtain rfl:=h 14 rfl
     (clear h;refine Ae rfl ?_;go_simp;exact ⟨Below.refl _ _,rfl⟩)
   case hend =>
   intro us wx hus hC
   obtain ⟨u0,u1,u2,u3,u4,u5,u6,u7,u8,u9,u10,u11,u12,u13,u14,u15,rfl⟩:∃ u0 u1 u2 u3 u4 u5 u6 u7 u8 u9 u10 u11 u12 u13 u14 u15,us=[u0,u1,u2,u3,u4,u5,u6,u7,u8,u9,u10,u11,u12,u13,u14,u15]:=by
    match us,hus with
    | [u0,u1,u2,u3,u4,u5,u6,u7,u8,u9,u10,u11,u12,u13,u14,u15],_=>exact ⟨u0,u1,u2,u3,u4,u5,u6,u7,u8,u9,u10,u11,u12,u13,u14,u15,rfl⟩
   clear hus;intro hall;obtain ⟨h0,h1,h2,h3,h4,h5,h6,h7,h8,h9,h10,h11,h12,h13,h14,h15,_⟩:=hall;obtain rfl:=h0;obtain rfl:=h6;obtain rfl:=h10
   have wi:IntKind.i64.wrap ((i:Int)+1)=(i:Int)+1:=IntWalk.i64_in _ ⟨by omega,by omega⟩
   have h15b:u15 = .int .i64 ((i:Int)+1):=Eq.trans h15 (by rw [wi])
   clear h15 wi;obtain rfl:=h15b;have P6:=Ac (P5.out.below hC.bel);have M6:=Ac (M5.out.below hC.bel);have U6:=Ac (U5.out.next hC.bel);have PA6:=Ac (PA5.out.below hC.bel);have ST6:=Ac (ST5.out.below hC.bel)
   have INS:=Ac (Rq (i:=i) ST6.out.row hz (by omega) rfl rfl)
   clear h1 h2 h3 h4 h5 h7 h8 h9 h11 h12 h13 h14 hC p0 p1 p2 p3 p4 pz P5 M5 U5 PA5 ST5;simp only [Bq,Act.put,List.take_succ_cons,List.take_zero,List.drop_succ_cons,List.drop_zero,List.setIfInBounds_toArray,List.set_cons_zero,List.set_cons_succ]
   go_wp2_with (go_at_call 56;(with_reducible refine INS.out.mono ?_);rintro en w11 ⟨v11,rfl,ho11,hg11,hat11⟩;obtain ⟨A11,c11,rfl,hc11⟩:=Bd ho11;have HO11:=Ac ho11;have HG11:=Ac hg11;have HA11:=Ac hat11;have nru:=Ac (show Has w11 pb 122 cur from (hg11.block pb ST6.out.hb.lt (fun e=>(ST6.out.rx pb e.symm).2 rfl)).trans ST6.out.hb);clear ho11 hg11 hat11;have pf:=nru.out.frozen;have pz:=nru.out.lt;have p3:w11.cell? ⟨pb,D*5+3,none⟩=some (.slice a.1 cs.length a.2):=(nru.out.cell _).trans ST6.out.c3)
   have hbw:eb+1≤wx.heap.size:=by have:=U6.out.size;have:=HZ0.out;omega
   have tbl:=EX.out.2;obtain ⟨hl1,htop1,hD1,hsl1,s11⟩:=HL.out
   have es11:lfS key B x=⟨x.n,(1,hb,cs),i⟩:=by
    unfold lfS lfP;rw [HIC.out.1,HIC.out.2,HB.out]
   have s12:=s11.trans (congrArg some es11);have PA4':=PA6.out;rw [← hsl1] at PA4'
   have e11:∀ g,(Value.slice A11 (cs.length-1) c11).ownBlock=some g→some g∉X4∧g≠pb:=fun g hg=>by
    rcases HA11.out with e | e
    ·exact ST6.out.rx g (by rw [← e];exact hg)
    ·have e5:g=wx.heap.size:=Option.some.inj (hg.symm.trans e)
     exact ⟨fun hm=>by have:=P6.out.lt g hm;omega,by have:=ST6.out.hb.lt;omega⟩
   have hat11:∀ g,(Value.slice A11 (cs.length-1) c11).ownBlock=some g→(Value.slice a.1 cs.length a.2).ownBlock=some g∨wx.heap.size≤g:=fun g hg=>by
    rcases HA11.out with e | e
    ·exact .inl (by rw [← e];exact hg)
    ·have e5:g=wx.heap.size:=Option.some.inj (hg.symm.trans e)
     exact .inr (by omega)
   have hsz11:D*5+3<cur.size:=by have:=HA.out.2.2;omega
   have st11:=ST6.out.put nru.out hsz11 HO11.out e11;have tu11:=Vz (pb:=pb) (v':=.slice A11 (cs.length-1) c11) (Turn.refl X4 wx) HG11.out hat11 (D*5+3) (.slice A11 (cs.length-1) c11)
   have rge:∀ g,(Value.slice a.1 cs.length a.2).ownBlock=some g→eb+1≤g:=fun g hg=>(PA6.out.rows.lt a (List.mem_of_getElem? HA.out.1) g ((Gf (⟨x.n,(1,hb,cs),i⟩:Stp) a).symm.trans hg)).1
   have pge:eb+1≤pb:=(PA6.out.own.lt pb rfl).1
   have M12:TM (w11.setCell ⟨pb,D*5+3,none⟩ (.slice A11 (cs.length-1) c11)) X4 tb p root:=(M6.out.grown HG11.out (fun e=>by have:=rge tb e.symm;omega)).set (by omega) _ _
   have P12:=(P6.out.grown HG11.out (fun g hg=>(ST6.out.rx g hg).1)).set ST6.out.nb (D*5+3) (.slice A11 (cs.length-1) c11)
   have U12:Turn X X4 W0 (w11.setCell ⟨pb,D*5+3,none⟩ (.slice A11 (cs.length-1) c11)):=U6.out.loc tu11 (fun g hg=>by
    have z0:=HZ0.out
    rcases List.mem_cons.1 hg with e | hg
    ·exact .inr (by have:g=pb:=Option.some.inj e;omega)
    ·rcases List.mem_cons.1 hg with e | hg
     ·exact .inr (by have:=rge g e.symm;omega)
     ·exact .inl hg) (fun g hg=>List.mem_cons_of_mem _ (List.mem_cons_of_mem _ hg))
   obtain ⟨cells',hcl'⟩:∃ l,cs.take i++cs.drop (i+1)=l:=⟨_,rfl⟩
   have hll:cells'.length=cs.length-1:=by
    rw [← hcl',List.length_append,List.length_take,List.length_drop];omega
   rw [hcl'] at st11;rw [← hll] at st11 tu11 hat11 M12 P12 U12 ⊢;have ST4':=ST6.out;rw [Nat.mul_comm D 5] at ST4' st11 tu11;have PA12:=PA4'.back (j:=D) (n:=x.n) (kd:=1) (l:=hb) (i:=i) (cells:=cs) (A:=a.1) (c:=a.2) s12 HA.out.1 rfl st11 ST4' tu11 hat11 hbw;rw [hsl1,Nat.mul_comm 5 D] at PA12
   have ST7:=Ac (Rk (w0:=W0) (X0:=X) (i:=i) (N:=D+1) (D:=D) P12 M12 (by have:=HCK.out;omega) (by have:=HCK.out;omega) (by have:=HCK.out;have:=Ic q S;omega) (by omega) PD.out.1 (by rw [PD.out.2];exact PRE.out.n3.sublist ((List.sublist_append_left _ _).append (List.Sublist.refl _))) (by
    rw [PD.out.2];intro y hy
    rcases List.mem_append.1 hy with hy | hy
    ·exact PRE.out.r3 y (List.mem_append_left _ (List.mem_append_left _ hy))
    ·exact PRE.out.r3 y (List.mem_append_right _ hy)) U12 (by rw [HZ0.out];exact PA12) (by
    rw [hl1,← hsl1,← List.length_set,List.take_length]
    rw [List.set_append_right _ _ (by rw [Ce];omega),Ce,hl1,Nat.sub_self]
    show Gw ups++[_]=Gw ups++[_]
    congr 2
    show (⟨x.n,(1,hb,cells'),i⟩:Stp)=⟨x.n,(1,hdN B 0,(x.its.take i++x.its.drop (i+1)).map Af),i⟩
    rw [HB.out,← hcl',← HIC.out.2,List.map_append,List.map_take,List.map_drop]) hl1 (by rw [List.length_set];exact hsl1) rfl (by have:=HZ0.out;omega))
   clear hbw tbl hl1 htop1 hD1 hsl1 s11 s12 es11 PA4' e11 hat11 hsz11 st11 tu11 rge pge M12 P12 U12 hcl' ST4' PA12
   refine ST7.out.mono ?_
   rintro en w7 ⟨rfl,S7,x7,Ds7,X7,hp7,ht7,tr7,lf7,mv7,q7⟩
   have FIN:=Ac (show Ug X w p S S0 root c k (Ei [x0] Ds0++P.flatten) (RS0 key E) (.tuple #[.bool (isE key E),.int .i64 0]) (.returned (.tuple #[.bool true,.int .i64 0])) (w7.setCell ⟨eb,0,none⟩ (.int .i64 0)) from by
    obtain ⟨hE,hP,f1,f3,f4,f5⟩:=HEP.out;rw [PD.out.2] at mv7;have em:Mc S.G [] [] []:=trivial
    have pp:=BP0 PRE.out mv7 tr7 (I1:=A.flatMap (·.its)++x.its.take i) (I2:=x.its.drop (i+1)++B.flatMap (·.its)) (M:=[]) (lf7.trans (by
     show (A++_ :: B).flatMap (·.its)=_
     rw [List.flatMap_append,List.flatMap_cons];simp)) f1 f3 em rfl
    have s3q:=Ic q S;have ho:=GZ0 (v:=[]) (u:=u) f4 f5;rw [← hE] at ho
    refine ⟨by rw [ho.2.1],S7,x7,Ds7,_,X7,(hp7.set (ht7.out EX.out.1 E0.out.lt) 0 _).more (by have:=HCK.out;omega) (by have:=HCK.out;omega),(U0.out.trans ht7).Di (by rw [HEB.out];exact Nat.le_refl _) 0 _, ?_,pp.2, ?_,by have:=HCK.out;omega⟩
    ·rw [ho.2.2.1];exact pp.1
    ·intro r hr
     rcases List.mem_append.1 hr with hr | hr
     ·exact H3.out r (by rw [hP];simp [hr])
     ·rcases List.mem_append.1 hr with hr | hr
      ·cases hr
      ·exact H3.out r (by rw [hP];simp [hr]))
   have E7:=ht7.has E0.out EX.out.1;have e0:=E7.cell 0;have ef:=E7.frozen;have ez:=E7.lt;clear hp7 ht7 tr7 lf7 mv7 q7 E7
   go_wp2_with fail
   refine leaves_cons (f:=55) (args:=#[.pointer (some ⟨eb,0,none⟩)]) (by simp) (by simp [go_sem]) ?_
   refine (Ol ⟨eb,0,none⟩ _).mono ?_
   rintro e u' w'' ⟨rfl,rfl,rfl⟩;simp [Leaves,settle,results,Tryz.results13,go_sem,ez,ef,e0];exact FIN.out
  have hKK:((bsK jt.k).toList == K.toList)=false:=by
   rw [← HK.out,Lib.toList_data,Lib.toList_data,Dn,Dn,beq_eq_false_iff_ne];exact hjk2
  obtain ⟨KJ,hKJ⟩:∃ v,bsK jt.k=v:=⟨_,rfl⟩;rw [hKJ] at hKK KO
  go_quiet ((go_at_call 51;refine Calls.quiet_of_same (KO.out _ _)))
  have HNK:=Ac (show ∀ hl:i<x.its.length,¬ x.its[i].k=key from fun hl=>by rw [hjt];exact hjk2)
  clear lci lc hgr hss KO gl hcu ar;have B3:=below_drewN (Below.refl w2.heap.size w2) nq;have P3:=P2.out.below B3;have U3:=U2.out.next B3;have E7:=U3.has E0.out EX.out.1
  have FIN:=Ac (show Ug X w p S S0 root c k (Ei [x0] Ds0++P.flatten) (RS0 key E) (.tuple #[.bool (isE key E),.int .i64 0]) (.returned (.tuple #[.bool false,.int .i64 0])) ((w2.drewN nq).setCell ⟨eb,0,none⟩ (.int .i64 0)) from by
   obtain ⟨E1,E2,P1,P2,hE,hP,f1,f3,f4,f5,f6⟩:=BO0 DN.out AK.out HIC.out.1 HNK.out ENT.out;have hn:=Zu (v:=[]) f4 f5;rw [← hE] at hn
   refine ⟨by rw [hn.2.1],S,x0,Ds0,P,X2,(P3.set (U3.out EX.out.1 E0.out.lt) 0 _).more (by omega) (by have:=HCK.out;omega),(U0.out.trans U3).Di (by rw [HEB.out];exact Nat.le_refl _) 0 _, ?_,Mv.refl _ _,H3.out,by omega⟩
   rw [hn.2.2];exact HS.out)
  have e0:=E7.cell 0;have ef:=E7.frozen;have ez:=E7.lt;clear P2 M2 U2 PA2 ST2 g0 g1 g2 g3 g4 gz gf B3 P3 U3 E7
  generalize w2.drewN nq=w3 at *
  go_wp2_with fail
  refine leaves_cons (f:=55) (args:=#[.pointer (some ⟨eb,0,none⟩)]) (by simp) (by simp [go_sem]) ?_
  refine (Ol ⟨eb,0,none⟩ _).mono ?_
  rintro e u' w'' ⟨rfl,rfl,rfl⟩;simp [Leaves,settle,results,Tryz.results13,go_sem,ez,ef,e0];exact FIN.out
 have zc:((i:Int) == (cs.length:Int))=true:=by rw [beq_iff_eq];omega
 go_quiet (fail)
 have HNK:=Ac (show ∀ hl:i<x.its.length,¬ x.its[i].k=key from fun hl=>absurd (by rw [← HIC.out.2,List.length_map];exact hl) hz)
 have B3:=below_drewN (Below.refl w2.heap.size w2) nq;have P3:=P2.out.below B3;have U3:=U2.out.next B3;have E7:=U3.has E0.out EX.out.1
 have FIN:=Ac (show Ug X w p S S0 root c k (Ei [x0] Ds0++P.flatten) (RS0 key E) (.tuple #[.bool (isE key E),.int .i64 0]) (.returned (.tuple #[.bool false,.int .i64 0])) ((w2.drewN nq).setCell ⟨eb,0,none⟩ (.int .i64 0)) from by
  obtain ⟨E1,E2,P1,P2,hE,hP,f1,f3,f4,f5,f6⟩:=BO0 DN.out AK.out HIC.out.1 HNK.out ENT.out;have hn:=Zu (v:=[]) f4 f5;rw [← hE] at hn
  refine ⟨by rw [hn.2.1],S,x0,Ds0,P,X2,(P3.set (U3.out EX.out.1 E0.out.lt) 0 _).more (by omega) (by have:=HCK.out;omega),(U0.out.trans U3).Di (by rw [HEB.out];exact Nat.le_refl _) 0 _, ?_,Mv.refl _ _,H3.out,by omega⟩
  rw [hn.2.2];exact HS.out)
 have e0:=E7.cell 0;have ef:=E7.frozen;have ez:=E7.lt;clear P2 M2 U2 PA2 ST2 g0 g1 g2 g3 g4 gz gf B3 P3 U3 E7
 generalize w2.drewN nq=w3 at *
 go_wp2_with fail
 refine leaves_cons (f:=55) (args:=#[.pointer (some ⟨eb,0,none⟩)]) (by simp) (by simp [go_sem]) ?_
 refine (Ol ⟨eb,0,none⟩ _).mono ?_
 rintro e u' w'' ⟨rfl,rfl,rfl⟩;simp [Leaves,settle,results,Tryz.results13,go_sem,ez,ef,e0];exact FIN.out
end Go.Proofs.YtjihboddejaelaaGreat
namespace Go.Proofs.YtjihboddejaelaaGreat
open Go.RowKit Go.BigFrame
theorem AV1 {S:St} (ok:EM0 S) (hq:S.q≤60000):Qb (S.alloc.set S.Ah (1,0,[])) S.Ah ⟨S.Ah,[],[]⟩ [] [] []∧Mv S (S.alloc.set S.Ah (1,0,[])) [] [S.Ah]:=by
 have ha:=ok.Ah
 refine ⟨⟨⟨⟨⟨List.pairwise_singleton _ _,fun x hx=>?_⟩,fun x hx i hi=>?_,fun x hx=>?_,⟨fun hn=>Dj,trivial⟩,fun x hx hn=>?_⟩,rfl,rfl⟩,trivial, ?_, ?_⟩,(Mv.alloc ok []).trans (Mv.set (List.mem_singleton.2 rfl) _)⟩
 ·rw [List.mem_singleton.1 hx]
  exact ⟨List.Pairwise.nil,fun e he=>by cases he⟩
 ·rw [List.mem_singleton.1 hx] at hi;cases hi
 ·rw [List.mem_singleton.1 hx];exact Nat.zero_le _
 ·rw [List.mem_singleton.1 hx]
  exact ⟨Nat.zero_le _,fun h=>absurd rfl h,fun h=>by cases h⟩
 ·simp [Ei]
 ·intro p hp
  have:p=S.Ah:=by simpa [Ei] using hp
  subst this;exact ⟨ha.1,ha.2.1,ha.2.2.1⟩
theorem AO1:Qq (1,0,[]):=⟨by show 1≤1;omega,by show 1≤5;omega,Nat.zero_le _,Nat.zero_le _⟩
theorem NN0 {w:World} {X:List (Option Nat)} {p c k:Nat} {S S0:St} (h:PT w X p S S0 c k) (hc:c+10≤60000) (hk:k≤800000000) (hq:S.q≤50000) :
 Calls Tryz.prog 8 #[.pointer (some ⟨p,0,none⟩)] w (Hw X w p (S.alloc.set S.Ah (1,0,[])) S0 (c+3) (k+5) (.tuple #[.int .i64 S.Ah,.int .i64 0])):=by
 have hmf:∀ (fn:Fn) (first cap:Array Value) (w:World),(Instr.makeFunc fn first cap).run Tryz.prog w = .ok (.func fn first cap) w:=fun _ _ _ _=>rfl
 have ok:=h.ok;have ha:=ok.Ah;have HP:=Ac h
 have AL:=Ac (fun W (h:PT W X p S S0 c k)=>BL0 h (by omega) (by omega) (by omega))
 have HC:=Ac (And.intro hc (And.intro hk hq));have HA:=Ac ha;obtain ⟨n,hn⟩:∃ n,S.Ah=n:=⟨_,rfl⟩;rw [hn] at AL HA ⊢
 have SV:=Ac (fun W X tb (h:PT W X p S.alloc S0 (c+2) (k+4)) (ht:TM W X tb p 0)=>Dp (A:=none) (m:=0) (cp:=0) (pg:=(1,0,[])) (n:=n) h ht (by omega) (by omega) HA.out.1 HA.out.2.1 HA.out.2.2.1 AO1 (SS.nil W) (by omega))
 clear h ok ha hc hk hq
 go_enter_defers Tryz.func8,Tryz.ntmps8
 have B0:=Ag w (.cells #[.int .i64 0] 26);have P0:=Ac (HP.out.below B0);have E0:=Ac (Has.new w 26 #[.int .i64 0])
 have EX:=Ac (show some w.heap.size∉X from fun hm=>by have:=HP.out.lt _ hm;omega)
 have U0:=Ac (Turn.below X B0)
 go_wp2_with fail
 clear B0 HP;obtain ⟨eb,heb⟩:∃ n,w.heap.size=n:=⟨_,rfl⟩;have HEB:=Ac heb;rw [heb] at E0 EX ⊢
 generalize w.alloc (.cells #[.int .i64 0] 26)=W0 at *
 refine (AL.out W0 P0.out).mono ?_
 rintro en w1 ⟨rfl,X1,hp1,ht1⟩;have E1:=ht1.has E0.out EX.out;have HX1:=Ac (ht1.out EX.out E0.out.lt);have HE1:=Ac E1;have P1:=Ac hp1;have U1:=Ac (U0.out.trans ht1);have e0:=E1.cell 0;have ef:=E1.frozen;have ez:=E1.lt;clear hp1 ht1 E1 E0 EX U0 P0 AL heb
 go_wp2_with fail
 have Z2:(w1.setCell ⟨eb,0,none⟩ (.int .i64 0)).heap.size=w1.heap.size:=by simp
 have B2:=Ag (w1.setCell ⟨eb,0,none⟩ (.int .i64 0)) (.cells #[.pointer (some ⟨p,0,none⟩),.int .i64 0] 111);have P2:=(P1.out.set HX1.out 0 (.int .i64 0)).below B2
 have U2:=(U1.out.Di (g:=eb) (by rw [HEB.out];exact Nat.le_refl _) 0 (.int .i64 0)).next B2
 have E2:=(HE1.out.set 0 (.int .i64 0)).alloc (.cells #[.pointer (some ⟨p,0,none⟩),.int .i64 0] 111);have T2:=Has.new (w1.setCell ⟨eb,0,none⟩ (.int .i64 0)) 111 #[.pointer (some ⟨p,0,none⟩),.int .i64 0];rw [Z2] at T2
 refine (SV.out _ X1 w1.heap.size P2 ⟨T2,fun hm=>by have:=P1.out.lt _ hm;omega⟩).mono ?_
 rintro en w3 ⟨rfl,X3,hp3,ht3⟩;have E3:=ht3.has E2 HX1.out
 have FIN:=Ac (show Hw X w p (S.alloc.set n (1,0,[])) S0 (c+3) (k+5) (.tuple #[.int .i64 n,.int .i64 0]) (.returned (.tuple #[.int .i64 n,.int .i64 0])) (w3.setCell ⟨eb,0,none⟩ (.int .i64 0)) from
  ⟨rfl,X3,(hp3.set (ht3.out HX1.out E2.lt) 0 _).more (by omega) (by omega),(U2.trans ht3).Di (by rw [HEB.out];exact Nat.le_refl _) 0 _⟩)
 clear e0 ef ez;have e0:=E3.cell 0;have ef:=E3.frozen;have ez:=E3.lt;clear Z2 B2 P2 U2 E2 T2 hp3 ht3 E3 P1 U1 HE1
 go_wp2_with fail
 refine leaves_cons (f:=43) (args:=#[.pointer (some ⟨eb,0,none⟩)]) (by simp) (by simp [go_sem]) ?_
 refine (CW0 ⟨eb,0,none⟩ _).mono ?_
 rintro e u' w'' ⟨rfl,rfl,rfl⟩;simp [Leaves,settle,results,Tryz.results8,go_sem,ez,ef,e0];exact FIN.out
theorem RF0 {tb p root:Nat} {S0:St}:∀ d,PX0 tb p root d S0
 | 0=>drop_zero
 | d+1=>WW0 (RF0 d)
def PN0 (X:List (Option Nat)) (w:World) (p:Nat) (S S0:St) (c k:Nat) (own:List Nat) (en:Ending) (w':World):Prop :=
 en = .returned (.int .i64 0)∧∃ S' X',PT w' X' p S' S0 (c+2*S.q) (k+5*S.q)∧Turn X X' w w'∧Mv S S' own []∧S'.q=S.q
theorem VA0 {w:World} {X:List (Option Nat)} {tb p root c k:Nat} {S S0:St} {x0:Nd} {Ds0:List (List Nd)} {E:List En} {P:List (List Nat)} (h:PT w X p S S0 c k) (ht:TM w X tb p root) (hc:c+2*S.q≤59000) (hk:k+5*S.q≤700000000)
 (hs:Qb S root x0 Ds0 E P) (h3:∀ ps∈P,ps.length≤3) :
 Calls Tryz.prog 17 #[.pointer (some ⟨tb,0,none⟩)] w (PN0 X w p S S0 c k (Ei [x0] Ds0++P.flatten)):=by
 have hmf:∀ (fn:Fn) (first cap:Array Value) (w:World),(Instr.makeFunc fn first cap).run Tryz.prog w = .ok (.func fn first cap) w:=fun _ _ _ _=>rfl
 have ok:=h.ok;have hfew:=ok.few
 obtain ⟨Ls,a1,a2⟩:=WF0 hs.tre.1 (fun q hq=>by have:=hs.rng q (List.mem_append_left _ hq);omega) h3 hs.ent
 obtain ⟨l,rfl,hsub⟩:∃ l,Ls=[l]∧Sub S.G Ds0.length x0.n l:=by
  cases Ls with
  | nil=>exact a1.elim
  | cons l r =>
    cases r with
    | nil=>exact ⟨l,rfl,a1.1⟩
    | cons b c=>exact a1.2.elim
 have pm:l.Perm (Ei [x0] Ds0++P.flatten):=by simpa using a2
 have hnd:l.Nodup:=pm.nodup_iff.2 hs.nd
 have hrg:∀ q∈l,0<q∧q<S.q∧q∉S.fr:=fun q hq=>hs.rng q (pm.mem_iff.1 hq)
 have hlen:l.length≤S.q:=Rx S.q _ hnd fun q hq=>(hrg q hq).2.1
 rw [hs.tre.2.1] at hsub;obtain ⟨hr1,hr12⟩:=hsub.pos;have hr2:=hrg root hr1
 have MV:=Ac (show Mv S (Ba S l) (Ei [x0] Ds0++P.flatten) [] from by
  have:=(Mv.Ba l (S:=S) []).perm (a':=Ei [x0] Ds0++P.flatten) (by rw [List.append_nil];exact pm.symm) (List.Perm.refl _)
  exact this)
 have LD:=Ac (fun W (h:PT W X p S S0 c k) (ht:TM W X tb p root)=>Gg (n:=root) h ht (by omega) (by omega) hr2.2.1 (ok.pg root hr2.2.1) hr12)
 have DR:=Ac (fun W X A cp (h:PT W X p S S0 c (k+1)) (ht:TM W X tb p root) hss hrx=>RF0 Ds0.length W X c k root cp l S A _ h ht (by omega) (by omega) hsub rfl hss hrx hnd hrg)
 obtain ⟨pg,hpg⟩:∃ pg,S.G root=pg:=⟨_,rfl⟩;rw [hpg] at LD DR;have HP:=Ac h;have HT:=Ac ht;have HL:=Ac hlen;have B0:=Ag w (.cells #[.int .i64 0] 26);have P0:=Ac (HP.out.below B0);have M0:=Ac (HT.out.below B0);have E0:=Ac (Has.new w 26 #[.int .i64 0])
 have EX:=Ac (show some w.heap.size∉X from fun hm=>by have:=HP.out.lt _ hm;omega)
 have U0:=Ac (Turn.below X B0);clear h ht hc hk hs h3 ok hfew a1 a2 hsub pm hnd hrg hlen hr1 hr12 hr2 hpg B0 HP HT
 go_enter_defers Tryz.func17,Tryz.ntmps17
 have t1:=M0.out.has.cells2.2;have tz:=M0.out.has.lt
 go_wp2_with fail
 obtain ⟨eb,heb⟩:∃ n,w.heap.size=n:=⟨_,rfl⟩;have HEB:=Ac heb;rw [heb] at E0 EX ⊢
 generalize w.alloc (.cells #[.int .i64 0] 26)=W0 at *
 refine (LD.out W0 P0.out M0.out).mono ?_
 rintro en w1 ⟨A1,c1,X1,rfl,hp1,ht1,ho1,hx1⟩;have P1:=Ac hp1;have M1:=Ac (M0.out.turn ht1);have U1:=Ac (U0.out.trans ht1);have E1:=Ac (ht1.has E0.out EX.out);have EX1:=Ac (ht1.out EX.out E0.out.lt);have O1:=Ac ho1
 have R1:=Ac (show ∀ a,A1=some a→some a.block∉X1∧a.block<w1.heap.size from fun a e=>by
  have e2:(Value.slice A1 pg.2.2.length c1).ownBlock=some a.block:=by rw [e];rfl
  exact ⟨hx1 _ e2,(ho1.lt _ e2).2⟩)
 clear hp1 ht1 ho1 hx1 P0 M0 U0 E0 EX LD t1 tz heb
 go_wp2_with fail
 refine (DR.out _ _ A1 c1 P1.out M1.out (SS.Dv O1.out) R1.out).mono ?_
 rintro en w2 ⟨rfl,X2,hp2,ht2⟩;have E2:=ht2.has E1.out EX1.out
 have FIN:=Ac (show PN0 X w p S S0 c k (Ei [x0] Ds0++P.flatten) (.returned (.int .i64 0)) (w2.setCell ⟨eb,0,none⟩ (.int .i64 0)) from
  ⟨rfl,Ba S l,X2,(hp2.set (ht2.out EX1.out E1.out.lt) 0 _).more (by have:=HL.out;omega) (by have:=HL.out;omega),(U1.out.trans ht2).Di (by rw [HEB.out];exact Nat.le_refl _) 0 _,MV.out,Ic l S⟩)
 have e0:=E2.cell 0;have ef:=E2.frozen;have ez:=E2.lt;clear hp2 ht2 E2 P1 M1 U1 E1 EX1 O1 R1 DR
 go_wp2_with fail
 refine leaves_cons (f:=60) (args:=#[.pointer (some ⟨eb,0,none⟩)]) (by simp) (by simp [go_sem]) ?_
 refine (JG0 ⟨eb,0,none⟩ _).mono ?_
 rintro e u' w'' ⟨rfl,rfl,rfl⟩;simp [Leaves,settle,results,Tryz.results17,go_sem,ez,ef,e0];exact FIN.out
theorem VM0 {w:World} {p root:Nat}:Calls Tryz.prog 9 #[.pointer (some ⟨p,0,none⟩),.int .i64 root] w fun en w'=>en = .returned (.pointer (some ⟨w.heap.size,0,none⟩))∧w'=w.alloc (.cells #[.pointer (some ⟨p,0,none⟩),.int .i64 root] 111):=by
 go_enter Tryz.func9,Tryz.ntmps9
 go_wp2
 go_ret
 exact ⟨rfl,rfl⟩
end Go.Proofs.YtjihboddejaelaaGreat
namespace Go.Proofs.YtjihboddejaelaaGreat
open Go.RowKit
section
variable {P P':Pl} {W W' k k' c cw cc cw' cc':Nat} {B N:Bk} {fB:Nat}
end
section
variable {L:Lg}
end
section
variable {P:Pl}
end
end Go.Proofs.YtjihboddejaelaaGreat
