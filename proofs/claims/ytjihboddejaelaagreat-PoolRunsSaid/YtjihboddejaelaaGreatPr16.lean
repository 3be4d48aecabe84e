/-
  The reference's Read.
-/
import Derived.Test.YtjihboddejaelaaGreatPr15
import Derived.Test.YtjihboddejaelaaGreatPr1
import Derived.Deep.RegionLaw
import Derived.Test.YtjihboddejaelaaGreatPr8
import Derived.Test.YtjihboddejaelaaGreatPr4
import Derived.Test.YtjihboddejaelaaGreatPr12
import Derived.Test.YtjihboddejaelaaGreatPr11
import Derived.Test.YtjihboddejaelaaGreatPr13
import Derived.Test.YtjihboddejaelaaGreatPr7
set_option linter.unusedVariables false
set_option linter.unusedSimpArgs false
namespace Go.Proofs.YtjihboddejaelaaGreat
open Go.RowKit
open Go.BigFrame
def LateNot (fs:List Fr) (j:Nat) (x:Int):Prop:=∀ (i:Nat) (f:Fr),j≤i→fs[i]? = some f→(f.n:Int)≠x
theorem lastAt_late:∀ (fs:List Fr) (x:Int),(∀ (i:Nat) (f:Fr),fs[i]? = some f→(f.n:Int)≠x)→lastAt fs x=0
 | [],x,_=>rfl
 | g :: fs,x,h=>by
   have h1:=lastAt_late fs x fun i f hf=>h (i+1) f (by rw [List.getElem?_cons_succ];exact hf)
   have h2:=h 0 g rfl
   rw [lastAt,h1,if_neg (by simp),if_neg h2]
theorem lastAt_found:∀ (fs:List Fr) (j:Nat) (x:Int) (f:Fr),fs[j]? = some f→(f.n:Int)=x→LateNot fs (j+1) x→lastAt fs x=j+1
 | [],j,x,f,hf,_,_=>by simp at hf
 | g :: fs,0,x,f,hf,hx,hl=>by
   have h1:=lastAt_late fs x fun i f hf=>hl (i+1) f (by omega) (by rw [List.getElem?_cons_succ];exact hf)
   cases hf
   rw [lastAt,h1,if_neg (by simp),if_pos hx]
 | g :: fs,j+1,x,f,hf,hx,hl=>by
   rw [List.getElem?_cons_succ] at hf
   have h1:=lastAt_found fs j x f hf hx fun i f hi hf=>hl (i+1) f (by omega) (by rw [List.getElem?_cons_succ];exact hf)
   rw [lastAt,h1,if_pos (by omega)]
theorem RP.downC {w:World} {b:List (Option Nat)} {rd:Nat} {D:Dk} (h:RP w b rd D):w.cell? ⟨rd,3+1,none⟩=some (.bool D.down):=h.cells.1
set_option maxRecDepth 100000 in
set_option maxHeartbeats 6400000 in
theorem ref_Read (b:List (Option Nat)) (rd r:Nat) (c:List (Option Nat)) (L:Lg) (n:Int) (w:World) (h:LQ w b rd r c L) (hok:L.D.ok) (hws:L.D.waits.length≤1000000000) (hd:L.D.down=false) (hlen:L.fs.length≤100000) :
 Calls Tryz.prog 68 #[.pointer (some ⟨r,0,none⟩),.int .i64 n] w fun e w'=>e = .returned (.tuple #[.string (L.readS n),.int .i64 (L.readE n)])∧Below w.heap.size w w':=by
 have HL:=Lib.hid h
 obtain ⟨x0,x2,x3,x4,x5,xz,xf⟩:=h.cells
 obtain ⟨A,m,x1,hm,hF⟩:=h.frames
 have xd:=h.disk.cells.1
 rw [hd] at xd
 have IN:=Lib.hid (fun w1=>ref_inB n 0 2147483647 w1)
 have HFS:=Lib.hid hF
 have OK:=Lib.hid hok
 by_cases hn:0≤n∧n≤2147483647
 ·rw [inB_yes hn.1 hn.2] at IN
  have SN:=Lib.hid (fun w1 (h1:RP w1 b rd L.D)=>refd_Seen rd L.D b 0 w1 h1 hok (by omega) hws)
  rw [show ((0:Nat):Int)=0 from rfl] at SN
  have hl0:=hok.seen 0
  have R1:=Lib.hid (show lastAt L.fs n≠0→L.readS n=((L.fs[lastAt L.fs n-1]?).map (·.text)).getD ⟨#[]⟩∧L.readE n=0 from fun hl=>⟨(if_pos ⟨hn.1,hn.2,hd⟩).trans (if_pos hl),(if_pos hn).trans ((if_neg (by rw [hd];decide)).trans (if_pos hl))⟩)
  have R2:=Lib.hid (show lastAt L.fs n=0→n<((L.D.seen 0).length / 1024:Nat)→L.readS n=bsOf (partL (L.D.seen 0) (1024*n.toNat) 1024)∧L.readE n=0 from fun hl hx=>⟨(if_pos ⟨hn.1,hn.2,hd⟩).trans ((if_neg (fun h=>h hl)).trans (if_pos hx)),(if_pos hn).trans ((if_neg (by rw [hd];decide)).trans ((if_neg (fun h=>h hl)).trans (if_pos hx)))⟩)
  have R3:=Lib.hid (show lastAt L.fs n=0→¬ n<((L.D.seen 0).length / 1024:Nat)→L.readS n=⟨#[]⟩∧L.readE n=7 from fun hl hx=>⟨(if_pos ⟨hn.1,hn.2,hd⟩).trans ((if_neg (fun h=>h hl)).trans (if_neg hx)),(if_pos hn).trans ((if_neg (by rw [hd];decide)).trans ((if_neg (fun h=>h hl)).trans (if_neg hx)))⟩)
  obtain ⟨l,hl⟩:∃ l,L.D.seen 0=l:=⟨_,rfl⟩
  rw [hl] at SN R2 R3 hl0
  obtain ⟨s,hs⟩:∃ s,bsOf l=s:=⟨_,rfl⟩
  have hz:s.size=l.length:=by rw [← hs,bsOf_size]
  rw [hs] at SN
  rw [← hz] at R2 R3 hl0
  obtain ⟨q,rfl⟩:∃ q:Nat,n=q:=⟨n.toNat,(Int.toNat_of_nonneg hn.1).symm⟩
  have HSS:=Lib.hid hs
  have HN:=Lib.hid hn
  have HZ:=Lib.hid hl0
  have HLL:=Lib.hid hlen
  clear h hok hws hF hl hs hz hn hl0
  go_enter Tryz.func68,Tryz.ntmps68
  go_wp2_with (go_at_call 63;refine (IN.out _).mono ?_;rintro e w1 ⟨rfl,rfl⟩)
  go_loopw [6] (fun v6 wr=>∃ j:Nat,j≤L.fs.length∧v6 = .int .i64 ((j:Int)-1)∧LateNot L.fs j q∧wr=w) (fun v6 _=>(intOf v6+1).toNat)
  case atStart=>exact ⟨L.fs.length,Nat.le_refl _,by simp,fun i f hi hf=>by have:=(List.getElem?_eq_some_iff.1 hf).1;omega,rfl⟩
  case round =>
   obtain ⟨j,hj,rfl,hlate,rfl⟩:=hrel
   have HLT:=Lib.hid hlate
   clear hlate
   by_cases hj0:j=0
   ·have L0:=Lib.hid (lastAt_late L.fs q fun i f hf=>HLT.out i f (by omega) hf)
    subst hj0
    have wr2:wrap64 ((s.size:Int) / 1024)=(s.size:Int) / 1024:=IntWalk.wrap64_in _ (by have:=HZ.out;omega)
    have wr3:wrap64 (1024*(q:Int))=1024*(q:Int):=IntWalk.wrap64_in _ (by have:=HN.out;omega)
    have wr4:wrap64 (1024*(q:Int)+1024)=1024*(q:Int)+1024:=IntWalk.wrap64_in _ (by have:=HN.out;omega)
    by_cases hx:q<s.size / 1024
    ·have RR:=Lib.hid (R2.out L0.out (by omega))
     have E:=Lib.hid (show s.extract (1024*q) (1024*q+1024)=bsOf (partL l (1024*(q:Int).toNat) 1024) by
      rw [← HSS.out,Int.toNat_natCast];exact extr_mid l (1024*q) 1024)
     have e1:decide ((s.size:Int) / 1024≤(q:Int))=false:=by simp;omega
     have e2:1024*q+1024≤s.size:=by omega
     go_wp2_with (go_at_call 93;(with_reducible refine (SN.out _ HL.out.disk).mono ?_);rintro e w3 ⟨rfl,hb3⟩)
     go_ret2
     rw [RR.out.1,RR.out.2,← E.out]
     exact ⟨rfl,hb3⟩
    ·have RR:=Lib.hid (R3.out L0.out (by omega))
     have e1:decide ((s.size:Int) / 1024≤(q:Int))=true:=by simp;omega
     go_wp2_with (go_at_call 93;(with_reducible refine (SN.out _ HL.out.disk).mono ?_);rintro e w3 ⟨rfl,hb3⟩)
     go_ret2
     rw [RR.out.1,RR.out.2]
     exact ⟨rfl,hb3⟩
   ·obtain ⟨i,rfl⟩:∃ i,j=i+1:=⟨j-1,by omega⟩
    have hi:i<L.fs.length:=by omega
    obtain ⟨f,hf⟩:∃ f,L.fs[i]? = some f:=⟨_,List.getElem?_eq_getElem hi⟩
    obtain ⟨bk,off,rfl,hbz,hcc⟩:=HFS.out.2 (by omega)
    obtain ⟨c0,c1⟩:=hcc i f hf
    have HFF:=Lib.hid hf
    rw [show (((i+1:Nat):Int)-1)=(i:Int) by omega]
    clear hcc hf hj0 hj
    by_cases hx:f.n=q
    ·have L0:=Lib.hid (lastAt_found L.fs i q f HFF.out (by omega) HLT.out)
     have RR:=R1.out (by rw [L0.out];omega)
     rw [L0.out,show i+1-1=i from rfl,HFF.out] at RR
     have RQ:=Lib.hid RR
     have e1:(f.n:Int)=(q:Int):=by omega
     rw [e1] at c0
     clear RR
     go_wp2_with fail
     go_ret2
     rw [RQ.out.1,RQ.out.2]
     exact ⟨rfl,Below.refl _ _⟩
    ·have e1:((f.n:Int) == (q:Int))=false:=by rw [beq_eq_false_iff_ne];omega
     go_wp2_with fail
     go_roundw
     case rel=>exact ⟨i,by omega,rfl,fun j g hj hg=>by
      rcases Nat.eq_or_lt_of_le hj with e | e
      ·subst e;rw [HFF.out] at hg;cases hg;omega
      ·exact HLT.out j g e hg,by trivial⟩
     case measure=>simp [intOf]
 ·rw [inB_no hn] at IN
  have EA:L.readS n=⟨#[]⟩∧L.readE n=1:=⟨if_neg (fun h=>hn ⟨h.1,h.2.1⟩),if_neg hn⟩
  rw [EA.1,EA.2]
  clear EA hn h hok hws hF
  go_enter Tryz.func68,Tryz.ntmps68
  go_wp2_with (go_at_call 63;refine (IN.out _).mono ?_;rintro e w1 ⟨rfl,rfl⟩)
  go_ret2
  exact ⟨rfl,Below.refl _ _⟩
end Go.Proofs.YtjihboddejaelaaGreat
namespace Go.Proofs.YtjihboddejaelaaGreat
open Go.RowKit
open Go.BigFrame
end Go.Proofs.YtjihboddejaelaaGreat
namespace Go.Proofs.YtjihboddejaelaaGreat
open Go.RowKit
open Go.BigFrame
def hdC (f:Pf):List Value:=[.int .i64 f.n,.string f.s,.int .i64 f.pins,.bool f.dirty]
def hdCells (F:List Pf):List Value:=F.flatMap hdC
def natVs (T:List Nat):List Value:=T.map fun n:Nat=>.int .i64 (n:Int)
def rowH (v:Value) (F:List Pf):Row:=⟨v,212,4,F.length,hdCells F⟩
def rowI (v:Value) (T:List Nat):Row:=⟨v,3,1,T.length,natVs T⟩
def qpCells (r:Nat) (vh vt:Value) (P:Pl):Array Value:=#[.pointer (some ⟨r,0,none⟩),.int .i64 P.most,vh,.int .i64 P.pages,vt,.int .i64 P.hits,.int .i64 P.misses,.int .i64 P.spills]
theorem hdCells_length:∀ F:List Pf,(hdCells F).length=F.length*4
 | []=>rfl
 | f :: F=>by
   have:=hdCells_length F
   simp only [hdCells,List.flatMap_cons,List.length_append,List.length_cons] at this ⊢
   rw [this];simp only [hdC,List.length_cons,List.length_nil];omega
theorem hdCells_get:∀ (F:List Pf) (j:Nat),(hdCells F)[j]? = F[j / 4]?.bind fun v=>(hdC v)[j % 4]?
 | [],j=>by simp [hdCells]
 | v :: F,j=>by
   have ih:=hdCells_get F
   show (hdC v++hdCells F)[j]? = _
   rw [List.getElem?_append]
   split
   ·rename_i h
    have h:j<4:=h
    rw [show j / 4=0 by omega,show j % 4=j by omega];rfl
   ·rename_i h
    have h:¬ j<4:=h
    show (hdCells F)[j-4]? = _
    rw [ih,show j / 4=(j-4) / 4+1 by omega,show (j-4) % 4=j % 4 by omega];rfl
theorem hdCells_snoc (F:List Pf) (f:Pf):hdCells (F++[f])=hdCells F++hdC f:=by simp [hdCells]
theorem hdC_one (f:Pf):∀ u∈hdC f,u.oneCell'=true:=fun u hu=>by
 simp only [hdC,List.mem_cons,List.not_mem_nil,or_false] at hu
 rcases hu with rfl | rfl | rfl | rfl <;> rfl
theorem natVs_snoc (T:List Nat) (n:Nat):natVs (T++[n])=natVs T++[.int .i64 n]:=by simp [natVs]
theorem hdCells_set {F:List Pf} {i j:Nat} {f f':Pf} {u:Value} (hf:F[i]? = some f) (hj:j<4) (h:(hdC f).set j u=hdC f'):(hdCells F).set (i*4+j) u=hdCells (F.set i f'):=by
 obtain ⟨hi,hfi⟩:=List.getElem?_eq_some_iff.1 hf
 apply List.ext_getElem?
 intro k
 rw [List.getElem?_set,hdCells_get,hdCells_get,List.getElem?_set,hdCells_length]
 by_cases hk:i*4+j=k
 ·subst hk
  rw [if_pos rfl,if_pos (by omega),show (i*4+j) / 4=i by omega,show (i*4+j) % 4=j by omega,if_pos rfl,if_pos hi]
  show some u=(hdC f')[j]?
  rw [← h,List.getElem?_set,if_pos rfl,if_pos (show j<(hdC f).length from hj)]
 ·rw [if_neg hk]
  by_cases hq:i=k / 4
  ·rw [if_pos hq,if_pos hi,← hq,hf]
   show (hdC f)[k % 4]? = (hdC f')[k % 4]?
   rw [← h,List.getElem?_set,if_neg (by omega)]
  ·rw [if_neg hq]
structure Qx where
 b:List (Option Nat)
 c:List (Option Nat)
 k:List (Option Nat)
 T:List Nat
def Qx.all (x:Qx):List (Option Nat):=(x.b++x.c)++x.k
def Same (T U:List Nat):Prop:=∀ n,n∈T↔n∈U
structure QM (w:World) (rd r q:Nat) (x:Qx) (P:Pl):Prop where
 log:LQ w x.b rd r x.c P.L
 obj:∃ vh vt,x.k=blks q [rowH vh P.ring,rowI vt x.T]∧Ob w q 71 (qpCells r vh vt P) [rowH vh P.ring,rowI vt x.T]
 disj:Disj (x.b++x.c) x.k
 same:Same x.T P.turned
def HS (w:World) (A:Option Addr) (n:Nat) (F:List Pf):Prop :=
 F.length=n∧(0<n→∃ g,A=some ⟨g,0,none⟩∧g<w.heap.size∧(∀ i,w.frozen? ⟨g,i,none⟩=false)∧∀ i f,F[i]? = some f →
  w.cell? ⟨g,i*4,none⟩=some (.int .i64 f.n)∧w.cell? ⟨g,i*4+1,none⟩=some (.string f.s)∧w.cell? ⟨g,i*4+2,none⟩=some (.int .i64 f.pins)∧w.cell? ⟨g,i*4+3,none⟩=some (.bool f.dirty))
theorem HS.of_own {w:World} {b:Nat} {v:Value} {n:Nat} {F:List Pf} {e:TypeId} (h:w.ownsRow b e 4 v n (hdCells F)):∃ A c,v = .slice A n c∧n≤c∧HS w A n F:=by
 have hl:F.length=n:=by have:=h.1;rw [hdCells_length] at this;omega
 rcases h.2 with ⟨rfl,h0⟩ | ⟨g,cap,cur,rfl,hb,hg,hn,_⟩
 ·subst h0
  exact ⟨none,0,rfl,Nat.le_refl _,hl,fun h=>absurd h (by omega)⟩
 ·refine ⟨_,_,rfl,hn,hl,fun _=>⟨g,rfl,(Array.getElem?_eq_some_iff.1 hg).1,fun i=>h.frozenAt i,fun i f hf=>?_⟩⟩
  have hi:=(List.getElem?_eq_some_iff.1 hf).1
  have gg:∀ k u,k<4→(hdC f)[k]? = some u→w.cell? ⟨g,i*4+k,none⟩=some u:=fun k u hk hu=>by
   rw [h.cellAt (i*4+k) (by omega),hdCells_get,show (i*4+k) / 4=i by omega,show (i*4+k) % 4=k by omega,hf];exact hu
  exact ⟨gg 0 _ (by omega) rfl,gg 1 _ (by omega) rfl,gg 2 _ (by omega) rfl,gg 3 _ (by omega) rfl⟩
section
variable {w w':World} {x x':Qx} {rd r q:Nat} {P P':Pl}
theorem QM.below (h:QM w rd r q x P) (hb:Below w.heap.size w w'):QM w' rd r q x P:=by
 obtain ⟨h1,⟨vh,vt,h2,h3⟩,h4,h5⟩:=h
 exact ⟨h1.below hb,⟨vh,vt,h2,h3.below hb⟩,h4,h5⟩
theorem QM.lt (h:QM w rd r q x P) {k:Nat} (hk:some k∈x.all):k<w.heap.size:=by
 obtain ⟨h1,⟨vh,vt,h2,h3⟩,h4,h5⟩:=h
 rcases List.mem_append.1 hk with h6 | h6
 ·exact h1.lt h6
 ·rw [h2] at h6;exact h3.lt h6
theorem QM.far {d d':List (Option Nat)} (h:QM w rd r q x P) (ht:Turn d d' w w') (hd:Disj d x.all):QM w' rd r q x P:=by
 obtain ⟨h1,⟨vh,vt,h2,h3⟩,h4,h5⟩:=h
 exact ⟨h1.far ht fun k hk h6=>hd k hk (List.mem_append_left _ h6),⟨vh,vt,h2,h3.far ht fun k hk h6=>hd k hk (List.mem_append_right _ (by rw [h2];exact h6))⟩,h4,h5⟩
theorem QM.onLog {b' c':List (Option Nat)} {L':Lg} (h:QM w rd r q x P) (hl:LQ w' b' rd r c' L') (ht:Turn (x.b++x.c) (b'++c') w w') :
 QM w' rd r q ⟨b',c',x.k,x.T⟩ { P with L:=L' }∧Turn x.all (Qx.all ⟨b',c',x.k,x.T⟩) w w':=by
 obtain ⟨h1,⟨vh,vt,h2,h3⟩,h4,h5⟩:=h
 have hd:Disj (x.b++x.c) (blks q [rowH vh P.ring,rowI vt x.T]):=h2 ▸ h4
 exact ⟨⟨hl,⟨vh,vt,h2,h3.far ht hd⟩,fun k hk hk2=>h3.disj ht hd k hk (h2 ▸ hk2),h5⟩,ht.left _⟩
theorem QM.onObj {vh vt:Value} {T':List Nat} (h:QM w rd r q x P) (ho:Ob w' q 71 (qpCells r vh vt P') [rowH vh P'.ring,rowI vt T'])
 (ht:Turn x.k (blks q [rowH vh P'.ring,rowI vt T']) w w') (hL:P'.L=P.L) (hs:Same T' P'.turned) :
 QM w' rd r q ⟨x.b,x.c,blks q [rowH vh P'.ring,rowI vt T'],T'⟩ P'∧Turn x.all (Qx.all ⟨x.b,x.c,blks q [rowH vh P'.ring,rowI vt T'],T'⟩) w w':=by
 refine ⟨⟨hL ▸ h.log.far ht h.disj.symm,⟨vh,vt,rfl,ho⟩,fun k hk hk2=>?_,hs⟩,ht.right _⟩
 rcases ht.new k hk2 with h6 | h6
 ·exact h.disj k hk h6
 ·have:=h.log.lt hk;omega
theorem QM.set (h:QM w rd r q x P) (i:Nat) (u:Value) (hL:P'.L=P.L) (hr:P'.ring=P.ring) (hs:P'.turned=P.turned) (hc:∀ vh vt,(qpCells r vh vt P).setIfInBounds i u=qpCells r vh vt P') :
 QM (w.setCell ⟨q,i,none⟩ u) rd r q x P'∧Turn x.all x.all w (w.setCell ⟨q,i,none⟩ u):=by
 obtain ⟨vh,vt,h2,h3⟩:=h.obj
 have h4:=h3.set i u
 rw [hc,← hr] at h4
 have ht:=Turn.set q [rowH vh P.ring,rowI vt x.T] i u w
 have:=h.onObj (P':=P') (T':=x.T) h4 (by rw [h2,hr];exact ht) hL (by rw [hs];exact h.same)
 rw [show (⟨x.b,x.c,blks q [rowH vh P'.ring,rowI vt x.T],x.T⟩:Qx)=x by rw [hr,← h2]] at this
 exact this
theorem QM.head (h:QM w rd r q x P):some q∈x.k∧q<w.heap.size∧∀ i,w.frozen? ⟨q,i,none⟩=false:=by
 obtain ⟨vh,vt,h2,h3⟩:=h.obj
 exact ⟨h2 ▸ List.mem_cons_self ..,h3.has.lt,h3.has.frozen⟩
theorem QM.cells (h:QM w rd r q x P):w.cell? ⟨q,0,none⟩=some (.pointer (some ⟨r,0,none⟩))∧w.cell? ⟨q,1,none⟩=some (.int .i64 P.most)∧w.cell? ⟨q,3,none⟩=some (.int .i64 P.pages)∧w.cell? ⟨q,5,none⟩=some (.int .i64 P.hits)∧w.cell? ⟨q,6,none⟩=some (.int .i64 P.misses)∧w.cell? ⟨q,7,none⟩=some (.int .i64 P.spills):=by
 obtain ⟨vh,vt,h2,h3⟩:=h.obj
 exact ⟨h3.has.cell 0,h3.has.cell 1,h3.has.cell 3,h3.has.cell 5,h3.has.cell 6,h3.has.cell 7⟩
theorem QM.frames (h:QM w rd r q x P):∃ A k,w.cell? ⟨q,2,none⟩=some (.slice A P.ring.length k)∧P.ring.length≤k∧HS w A P.ring.length P.ring∧w.ownsRow 0 212 4 (.slice A P.ring.length k) P.ring.length (hdCells P.ring)∧∀ g,A=some ⟨g,0,none⟩→some g∈x.k∧¬ g=q:=by
 obtain ⟨vh,vt,h2,h3⟩:=h.obj
 have ho:w.ownsRow 0 212 4 vh P.ring.length (hdCells P.ring):=h3.own 0 rfl
 have hc:w.cell? ⟨q,2,none⟩=some vh:=h3.has.cell 2
 obtain ⟨A,k,rfl,hk,hF⟩:=HS.of_own ho
 refine ⟨A,k,hc,hk,hF,ho,fun g hg=>?_⟩
 subst hg
 rw [h2]
 exact ⟨List.mem_cons_of_mem _ (List.mem_cons_self ..),fun e=>apart_head h3.apart (List.mem_cons_self ..) (congrArg some e)⟩
theorem QM.list (h:QM w rd r q x P):∃ A k,w.cell? ⟨q,4,none⟩=some (.slice A x.T.length k)∧x.T.length≤k∧w.ownsRow 0 3 1 (.slice A x.T.length k) x.T.length (natVs x.T)∧∀ g,A=some ⟨g,0,none⟩→some g∈x.k:=by
 obtain ⟨vh,vt,h2,h3⟩:=h.obj
 have ho:w.ownsRow 0 3 1 vt x.T.length (natVs x.T):=h3.own 1 rfl
 have hc:w.cell? ⟨q,4,none⟩=some vt:=h3.has.cell 4
 obtain ⟨A,k,rfl,hk⟩:=own_form ho
 refine ⟨A,k,hc,hk,ho,fun g hg=>?_⟩
 subst hg
 rw [h2]
 exact List.mem_cons_of_mem _ (List.mem_cons_of_mem _ (List.mem_cons_self ..))
theorem QM.newRing {v':Value} {v:Value} (h:QM w rd r q x P) (hv:w.cell? ⟨q,2,none⟩=some v) (hg:w.grownBy w' v.ownBlock) (hown:w'.ownsRow 0 212 4 v' P'.ring.length (hdCells P'.ring))
 (hat:v'.ownBlock=v.ownBlock∨∀ k,v'.ownBlock=some k→w.heap.size≤k) (hL:P'.L=P.L) (hs:P'.turned=P.turned) (hc:∀ v vt,(qpCells r v vt P).setIfInBounds 2 v'=qpCells r v' vt P') :
 ∃ k',QM (w'.setCell ⟨q,2,none⟩ v') rd r q ⟨x.b,x.c,k',x.T⟩ P'∧Turn x.all (Qx.all ⟨x.b,x.c,k',x.T⟩) w (w'.setCell ⟨q,2,none⟩ v'):=by
 obtain ⟨vh,vt,h2,h3⟩:=h.obj
 have e1:vh=v:=by
  have h5:w.cell? ⟨q,2,none⟩=some vh:=h3.has.cell 2
  rw [hv] at h5
  exact (Option.some.inj h5).symm
 subst e1
 obtain ⟨q1,t1⟩:=h3.row 0 (r':=rowH v' P'.ring) rfl hg hown hat
 have q2:=q1.set 2 v'
 have t2:=Turn.set q [rowH v' P'.ring,rowI vt x.T] 2 v' w'
 rw [hc] at q2
 exact ⟨_,h.onObj (T':=x.T) q2 (by rw [h2];exact t1.trans t2) hL (by rw [hs];exact h.same)⟩
theorem QM.appRing {W:World} {v v':Value} {f:Pf} (h:QM w rd r q x P) (hv:w.cell? ⟨q,2,none⟩=some v) (hb:Below w.heap.size w W) (hown:w'.ownsRow 0 212 4 v' (P.ring.length+1) (hdCells P.ring++hdC f))
 (hg:W.grownBy w' v.ownBlock) (hat:v'.ownBlock=v.ownBlock∨v'.ownBlock=some W.heap.size) (hr:P'.ring=P.ring++[f]) (hL:P'.L=P.L) (hs:P'.turned=P.turned) (hc:∀ v vt,(qpCells r v vt P).setIfInBounds 2 v'=qpCells r v' vt P') :
 (w'.cell? ⟨q,2,none⟩=some v∧q<w'.heap.size∧∀ i,w'.frozen? ⟨q,i,none⟩=false)∧∃ k',QM (w'.setCell ⟨q,2,none⟩ v') rd r q ⟨x.b,x.c,k',x.T⟩ P'∧Turn x.all (Qx.all ⟨x.b,x.c,k',x.T⟩) w (w'.setCell ⟨q,2,none⟩ v'):=by
 have hg2:w.grownBy w' v.ownBlock:=grownBy_trans (below_grownBy hb) hg
 have ho2:w'.ownsRow 0 212 4 v' P'.ring.length (hdCells P'.ring):=by rw [hr,hdCells_snoc,List.length_append];exact hown
 have hat2:v'.ownBlock=v.ownBlock∨∀ k,v'.ownBlock=some k→w.heap.size≤k:=hat.imp id fun e k hk=>by
  rw [e] at hk;cases hk;exact hb.size
 refine ⟨?_,h.newRing hv hg2 ho2 hat2 hL hs hc⟩
 obtain ⟨vh,vt,h2,h3⟩:=h.obj
 have e1:vh=v:=by
  have h5:w.cell? ⟨q,2,none⟩=some vh:=h3.has.cell 2
  rw [hv] at h5
  exact (Option.some.inj h5).symm
 subst e1
 obtain ⟨q1,t1⟩:=h3.row 0 (r':=rowH v' P'.ring) rfl hg2 ho2 hat2
 exact ⟨q1.has.cell 2,q1.has.lt,q1.has.frozen⟩
theorem QM.setHeld {A:Option Addr} {g k i j:Nat} {f f':Pf} {u:Value} (h:QM w rd r q x P) (hv:w.cell? ⟨q,2,none⟩=some (.slice (some ⟨g,0,none⟩) P.ring.length k)) (hf:P.ring[i]? = some f) (hj:j<4) (hu:(hdC f).set j u=hdC f')
 (hL:P'.L=P.L) (hr:P'.ring=P.ring.set i f') (hs:P'.turned=P.turned) (hc:∀ vh vt,qpCells r vh vt P=qpCells r vh vt P') :
 QM (w.setCell ⟨g,i*4+j,none⟩ u) rd r q x P'∧Turn x.all x.all w (w.setCell ⟨g,i*4+j,none⟩ u):=by
 obtain ⟨vh,vt,h2,h3⟩:=h.obj
 have e1:vh = .slice (some ⟨g,0,none⟩) P.ring.length k:=by
  have h5:w.cell? ⟨q,2,none⟩=some vh:=h3.has.cell 2
  rw [hv] at h5
  exact (Option.some.inj h5).symm
 subst e1
 have ho:w.ownsRow 0 212 4 (.slice (some ⟨g,0,none⟩) P.ring.length k) P.ring.length (hdCells P.ring):=h3.own 0 rfl
 obtain ⟨s1,s2⟩:=ho.stored (i*4+j) u
 rw [hdCells_set hf hj hu,← hr] at s1
 have hlen:P'.ring.length=P.ring.length:=by rw [hr,List.length_set]
 have s3:(w.setCell ⟨g,i*4+j,none⟩ u).ownsRow 0 212 4 (.slice (some ⟨g,0,none⟩) P.ring.length k) P'.ring.length (hdCells P'.ring):=by rw [hlen];exact s1
 obtain ⟨q1,t1⟩:=h3.row 0 (r':=rowH (.slice (some ⟨g,0,none⟩) P.ring.length k) P'.ring) rfl s2 s3 (.inl rfl)
 rw [hc] at q1
 have:=h.onObj (T':=x.T) q1 (by rw [h2];exact t1) hL (by rw [hs];exact h.same)
 rw [show (⟨x.b,x.c,blks q [rowH (.slice (some ⟨g,0,none⟩) P.ring.length k) P'.ring,rowI vt x.T],x.T⟩:Qx)=x by rw [show blks q [rowH (.slice (some ⟨g,0,none⟩) P.ring.length k) P'.ring,rowI vt x.T]=x.k from h2.symm ▸ rfl]] at this
 exact this
theorem QM.newList {v' v:Value} {T':List Nat} (h:QM w rd r q x P) (hv:w.cell? ⟨q,4,none⟩=some v) (hg:w.grownBy w' v.ownBlock) (hown:w'.ownsRow 0 3 1 v' T'.length (natVs T'))
 (hat:v'.ownBlock=v.ownBlock∨∀ k,v'.ownBlock=some k→w.heap.size≤k) (hL:P'.L=P.L) (hr:P'.ring=P.ring) (hs:Same T' P'.turned) (hc:∀ vh v,(qpCells r vh v P).setIfInBounds 4 v'=qpCells r vh v' P') :
 ∃ k',QM (w'.setCell ⟨q,4,none⟩ v') rd r q ⟨x.b,x.c,k',T'⟩ P'∧Turn x.all (Qx.all ⟨x.b,x.c,k',T'⟩) w (w'.setCell ⟨q,4,none⟩ v'):=by
 obtain ⟨vh,vt,h2,h3⟩:=h.obj
 have e1:vt=v:=by
  have h5:w.cell? ⟨q,4,none⟩=some vt:=h3.has.cell 4
  rw [hv] at h5
  exact (Option.some.inj h5).symm
 subst e1
 obtain ⟨q1,t1⟩:=h3.row 1 (r':=rowI v' T') rfl hg hown hat
 have q2:=q1.set 4 v'
 have t2:=Turn.set q [rowH vh P.ring,rowI v' T'] 4 v' w'
 rw [hc] at q2
 exact ⟨_,h.onObj (P':=P') (vh:=vh) (T':=T') (by rw [hr];exact q2) (by rw [h2,hr];exact t1.trans t2) hL hs⟩
theorem QM.appList {W:World} {v v':Value} {n:Nat} (h:QM w rd r q x P) (hv:w.cell? ⟨q,4,none⟩=some v) (hb:Below w.heap.size w W) (hown:w'.ownsRow 0 3 1 v' (x.T.length+1) (natVs x.T++[.int .i64 n]))
 (hg:W.grownBy w' v.ownBlock) (hat:v'.ownBlock=v.ownBlock∨v'.ownBlock=some W.heap.size) (hr:P'.ring=P.ring) (hL:P'.L=P.L) (hs:P'.turned=insN n P.turned) (hc:∀ vh v,(qpCells r vh v P).setIfInBounds 4 v'=qpCells r vh v' P') :
 (w'.cell? ⟨q,4,none⟩=some v∧q<w'.heap.size∧∀ i,w'.frozen? ⟨q,i,none⟩=false)∧∃ k',QM (w'.setCell ⟨q,4,none⟩ v') rd r q ⟨x.b,x.c,k',x.T++[n]⟩ P'∧Turn x.all (Qx.all ⟨x.b,x.c,k',x.T++[n]⟩) w (w'.setCell ⟨q,4,none⟩ v'):=by
 have hg2:w.grownBy w' v.ownBlock:=grownBy_trans (below_grownBy hb) hg
 have ho2:w'.ownsRow 0 3 1 v' (x.T++[n]).length (natVs (x.T++[n])):=by rw [natVs_snoc,List.length_append];exact hown
 have hat2:v'.ownBlock=v.ownBlock∨∀ k,v'.ownBlock=some k→w.heap.size≤k:=hat.imp id fun e k hk=>by
  rw [e] at hk;cases hk;exact hb.size
 have hsame:Same (x.T++[n]) P'.turned:=fun m=>by
  rw [hs,List.mem_append,List.mem_singleton,h.same m]
  unfold insN
  split
  ·rename_i hn
   exact ⟨fun h=>h.elim id (fun e=>e ▸ hn),.inl⟩
  ·rw [List.mem_cons];exact Or.comm
 refine ⟨?_,h.newList hv hg2 ho2 hat2 hL hr hsame hc⟩
 obtain ⟨vh,vt,h2,h3⟩:=h.obj
 have e1:vt=v:=by
  have h5:w.cell? ⟨q,4,none⟩=some vt:=h3.has.cell 4
  rw [hv] at h5
  exact (Option.some.inj h5).symm
 subst e1
 obtain ⟨q1,t1⟩:=h3.row 1 (r':=rowI v' (x.T++[n])) rfl hg2 ho2 hat2
 exact ⟨q1.has.cell 4,q1.has.lt,q1.has.frozen⟩
end
def QPost2 (u:World) (rd r q:Nat) (x:Qx) (j:Nat) (P':Pl) (v:Value) (e:Ending) (w':World):Prop :=
 e = .returned v∧∃ x':Qx,QM w' rd r q x' P'∧Turn x.all x'.all u w'∧x'.T.length≤x.T.length+j
theorem QPost2.refl {w:World} {rd r q:Nat} {x:Qx} {P:Pl} {v:Value} (h:QM w rd r q x P) (j:Nat):QPost2 w rd r q x j P v (.returned v) w:=⟨rfl,x,h,Turn.refl _ _,Nat.le_add_right ..⟩
theorem infoHeld:(Tryz.prog.info? 212).map (fun i=>(i.zero,i.size,i.bytes))=some (some (.agg #[.int .i64 0,.string ⟨#[]⟩,.int .i64 0,.bool false]),4,40):=by kernel_rfl
theorem zeroCellsHeld:(Value.agg #[.int .i64 0,.string ⟨#[]⟩,.int .i64 0,.bool false]).cells.size=4:=by kernel_rfl
end Go.Proofs.YtjihboddejaelaaGreat
namespace Go.Proofs.YtjihboddejaelaaGreat
open Go.RowKit
open Go.BigFrame
def Early (F:List Pf) (j:Nat) (x:Int):Prop:=∀ (i:Nat) (g:Pf),i<j→F[i]? = some g→(g.n:Int)≠x
def idxN (x:Int) (F:List Pf):Int:=((F.findIdx? (fun f=>(f.n:Int) == x)).map Int.ofNat).getD (-1)
theorem idxN_at {x:Int} {F:List Pf} {i:Nat} {f:Pf} (hf:F[i]? = some f) (hx:(f.n:Int)=x) (hn:Early F i x):idxN x F=i:=by
 obtain ⟨hi,hfi⟩:=List.getElem?_eq_some_iff.1 hf
 have:F.findIdx? (fun f=>(f.n:Int) == x)=some i:=by
  rw [List.findIdx?_eq_some_iff_getElem]
  refine ⟨hi,by rw [hfi];simpa using hx,fun j hj=>?_⟩
  have:=hn j F[j] hj (List.getElem?_eq_getElem (by omega))
  simpa using this
 unfold idxN;rw [this];rfl
theorem idxN_none {x:Int} {F:List Pf} (hn:Early F F.length x):idxN x F = -1:=by
 have:F.findIdx? (fun f=>(f.n:Int) == x)=none:=by
  rw [List.findIdx?_eq_none_iff]
  intro g hg
  obtain ⟨i,hi,rfl⟩:=List.getElem_of_mem hg
  have:=hn i F[i] hi (List.getElem?_eq_getElem hi)
  simpa using this
 unfold idxN;rw [this];rfl
theorem idx_cases (x:Int) (F:List Pf):(findN x F=none∧idxN x F = -1)∨∃ (i:Nat) (f:Pf),F[i]? = some f∧(f.n:Int)=x∧findN x F=some f∧idxN x F=i∧Early F i x:=by
 cases h:findN x F with
 | none =>
   refine .inl ⟨rfl,idxN_none fun i g _ hg=>?_⟩
   have:=List.find?_eq_none.1 h g (List.mem_of_getElem? hg)
   simpa using this
 | some f =>
   unfold findN at h
   obtain ⟨h1,F1,F2,h2,h3⟩:=List.find?_eq_some_iff_append.1 h
   have e:F[F1.length]? = some f:=by rw [h2];simp
   have hx:(f.n:Int)=x:=by simpa using h1
   have hE:Early F F1.length x:=fun i g hi hg=>by
    rw [h2,List.getElem?_append_left hi] at hg
    simpa using h3 g (List.mem_of_getElem? hg)
   exact .inr ⟨F1.length,f,e,hx,rfl,idxN_at e hx hE,hE⟩
theorem erase_same {F:List Pf} {i:Nat} (h:i<F.length):(F.take (i+1)).eraseIdx i=(F.take i).eraseIdx i:=by
 have e:F.take (i+1)=F.take i++[F[i]]:=by rw [List.take_add_one,List.getElem?_eq_getElem h];rfl
 have h1:(F.take i).length=i:=by rw [List.length_take];omega
 rw [e,List.eraseIdx_append_of_length_le (by omega),h1,Nat.sub_self,List.eraseIdx_of_length_le (l:=F.take i) (by omega)]
 simp
theorem erase_next {F:List Pf} {i j:Nat} {g:Pf} (hj:F[j]? = some g) (h:j≠i):(F.take (j+1)).eraseIdx i=(F.take j).eraseIdx i++[g]:=by
 obtain ⟨hl,_⟩:=List.getElem?_eq_some_iff.1 hj
 rw [List.take_add_one,hj]
 have h1:(F.take j).length=j:=by rw [List.length_take];omega
 show ((F.take j)++[g]).eraseIdx i=_
 by_cases hi:i<j
 ·rw [List.eraseIdx_append_of_lt_length (by omega)]
 ·rw [List.eraseIdx_of_length_le (by rw [List.length_append,h1];simp;omega),List.eraseIdx_of_length_le (by omega)]
theorem dropN_erase {F:List Pf} {i:Nat} {f:Pf} (hn:(F.map (·.n)).Nodup) (hf:F[i]? = some f):dropN f.n F=F.eraseIdx i:=by
 obtain ⟨hi,hfi⟩:=List.getElem?_eq_some_iff.1 hf
 have hsplit:F=F.take i++f :: F.drop (i+1):=hfi ▸ split_atF hi
 have h1:(F.take i).length=i:=by rw [List.length_take];omega
 have hn2:=hn
 rw [hsplit,List.map_append,List.map_cons,List.nodup_append,List.nodup_cons] at hn2
 obtain ⟨_,⟨h2,_⟩,h4⟩:=hn2
 have e1:dropN f.n F=F.take i++F.drop (i+1):=by
  conv=>lhs;rw [hsplit]
  unfold dropN
  rw [List.filter_append,List.filter_cons,if_neg (by simp)]
  congr 1
  ·exact List.filter_eq_self.2 fun g hg=>by
    have:=h4 g.n (List.mem_map.2 ⟨g,hg,rfl⟩) f.n (List.mem_cons_self ..)
    simpa using this
  ·exact List.filter_eq_self.2 fun g hg=>by
    have:g.n≠f.n:=fun e=>h2 (List.mem_map.2 ⟨g,hg,e⟩)
    simpa using this
 rw [e1]
 conv=>rhs;rw [hsplit]
 rw [List.eraseIdx_append_of_length_le (by omega),h1]
 simp
set_option maxRecDepth 100000 in
set_option maxHeartbeats 3200000 in
theorem ref_find (rd r q:Nat) (x:Qx) (P:Pl) (n:Int) (w:World) (h:QM w rd r q x P) (hl:P.ring.length≤1000) :
 Calls Tryz.prog 157 #[.pointer (some ⟨q,0,none⟩),.int .i64 n] w fun e w'=>e = .returned (.int .i64 (idxN n P.ring))∧Below w.heap.size w w':=by
 obtain ⟨A,k,x2,_,hF,_⟩:=h.frames
 have xz:=h.head.2.1
 have HFS:=Lib.hid hF
 clear h hF
 go_enter Tryz.func157,Tryz.ntmps157
 go_wp2_with fail
 go_loopw [12] (fun v12 wr=>∃ j:Nat,j≤P.ring.length∧v12 = .int .i64 j∧Early P.ring j n∧Below w.heap.size w wr) (fun v12 _=>P.ring.length-(intOf v12).toNat)
 case atStart=>exact ⟨0,Nat.zero_le _,rfl,fun i g hi _=>absurd hi (by omega),Below.refl _ _⟩
 case round =>
  obtain ⟨j,hj,rfl,he,hb⟩:=hrel
  have HE:=Lib.hid he
  have HB:=Lib.hid hb
  clear he hb
  by_cases hj2:j<P.ring.length
  ·obtain ⟨f,hf⟩:∃ f,P.ring[j]? = some f:=⟨_,List.getElem?_eq_getElem hj2⟩
   obtain ⟨g,rfl,hg,_,hcc⟩:=HFS.out.2 (by omega)
   obtain ⟨a0,a1,a2,a3⟩:=hcc j f hf
   obtain ⟨wcl,wfl⟩:=bcell HB.out
   have d0:=(wcl g (j*4) hg).trans a0
   have d1:=(wcl g (j*4+1) hg).trans a1
   have d2:=(wcl g (j*4+2) hg).trans a2
   have d3:=(wcl g (j*4+3) hg).trans a3
   have HFF:=Lib.hid hf
   clear hcc a0 a1 a2 a3 wcl wfl hf
   by_cases hx:(f.n:Int)=n
   ·have R:=Lib.hid (idxN_at HFF.out hx HE.out)
    subst hx
    go_wp2_with fail
    go_ret
    rw [R.out]
    exact ⟨rfl,HB.out.alloc HB.out.size _⟩
   ·have e1:((f.n:Int) == n)=false:=by rw [beq_eq_false_iff_ne];exact hx
    have HX:=Lib.hid hx
    clear hx
    go_wp2_with fail
    go_roundw
    case rel=>exact ⟨j+1,by omega,by simp,fun i g hi hg=>by
     rcases Nat.lt_or_ge i j with h1 | h1
     ·exact HE.out i g h1 hg
     ·obtain rfl:i=j:=by omega
      rw [HFF.out] at hg;cases hg;exact HX.out,HB.out.alloc HB.out.size _⟩
    case measure=>simp [intOf];omega
  ·obtain rfl:j=P.ring.length:=by omega
   have R:=Lib.hid (idxN_none HE.out)
   go_wp2_with fail
   go_ret
   rw [R.out]
   exact ⟨rfl,HB.out⟩
set_option maxRecDepth 100000 in
set_option maxHeartbeats 3200000 in
theorem ref_last (rd r q:Nat) (x:Qx) (P:Pl) (g k n:Nat) (w:World) (h:QM w rd r q x P) (hl:P.ring.length=n+1) (hn:n≤1000) (hA:w.cell? ⟨q,2,none⟩=some (.slice (some ⟨g,0,none⟩) P.ring.length k)) :
 Calls Tryz.prog 155 #[.pointer (some ⟨q,0,none⟩)] w fun e w'=>e = .returned (.pointer (some ⟨g,n*4,none⟩))∧Below w.heap.size w w':=by
 have xz:=h.head.2.1
 rw [hl] at hA
 have e1:(((n+1:Nat):Int)-1)=(n:Int):=by omega
 clear h hl
 go_enter Tryz.func155,Tryz.ntmps155
 go_wp2_with fail
 refine wp_region_cls (w) (by kernel_rfl) (by kernel_rfl) (Cls.start _) ?_
 repeat
  first
   | go_big_quiet_skip
   | (go_big_quiet_want;(first | go_big_quiet_op | go_simp);first | go_big_quiet_on | (apply Exists.intro;refine ⟨fun w' hw'=>?_, ?_⟩;(·(first | (with_reducible exact rfl) | (fail) | (obtain ⟨hc,hf⟩:=hw'.facts;go_simp;first | done | (with_reducible exact rfl) | (with_reducible exact ⟨rfl,rfl⟩))));go_big_quiet_on))
 refine wpQuiet_nil ?_
 intro wq hq
 have HQ:=Lib.hid hq
 clear hq
 go_wp2_with fail
 go_ret
 exact ⟨rfl,HQ.out⟩
set_option maxRecDepth 100000 in
set_option maxHeartbeats 6400000 in
theorem ref_without (rd r q:Nat) (x:Qx) (P:Pl) (i:Nat) (w:World) (h:QM w rd r q x P) (hl:P.ring.length≤1000) (hi:i<P.ring.length) :
 Calls Tryz.prog 166 #[.pointer (some ⟨q,0,none⟩),.int .i64 i] w (QPost2 w rd r q x 0 { P with ring:=P.ring.eraseIdx i } (.tuple #[])):=by
 have HH:=Lib.hid h
 obtain ⟨A,k,x2,_,hF,_⟩:=h.frames
 have xz:=h.head.2.1
 have HFS:=Lib.hid hF
 obtain ⟨i1,hi1,hz3,hz4,hz5⟩:=info_parts infoHeld
 clear h hF
 go_enter Tryz.func166,Tryz.ntmps166
 go_wp2_with fail
 go_loopw [4,12] (fun v4 v12 wr=>∃ j:Nat,j≤P.ring.length∧v12 = .int .i64 j∧wr.ownsRow w.heap.size 212 4 v4 ((P.ring.take j).eraseIdx i).length (hdCells ((P.ring.take j).eraseIdx i))∧Below w.heap.size w wr) (fun _ v12 _=>P.ring.length-(intOf v12).toNat)
 case atStart=>exact ⟨0,Nat.zero_le _,rfl,World.ownsRow_nil _ _ _ _,Below.refl _ _⟩
 case round =>
  obtain ⟨j,hj,rfl,ho,hb⟩:=hrel
  have HRO:=Lib.hid ho
  have HB:=Lib.hid hb
  clear ho hb
  by_cases hj2:j<P.ring.length
  ·obtain ⟨f,hf⟩:∃ f,P.ring[j]? = some f:=⟨_,List.getElem?_eq_getElem hj2⟩
   obtain ⟨g,rfl,hg,_,hcc⟩:=HFS.out.2 (by omega)
   obtain ⟨a0,a1,a2,a3⟩:=hcc j f hf
   obtain ⟨wcl,wfl⟩:=bcell HB.out
   have d0:=(wcl g (j*4) hg).trans a0
   have d1:=(wcl g (j*4+1) hg).trans a1
   have d2:=(wcl g (j*4+2) hg).trans a2
   have d3:=(wcl g (j*4+3) hg).trans a3
   have HFF:=Lib.hid hf
   clear hcc a0 a1 a2 a3 wcl wfl hf
   by_cases hx:j=i
   ·have e1:((j:Int) != (i:Int))=false:=by rw [bne_eq_false_iff_eq];omega
    have R:=Lib.hid (show (P.ring.take (j+1)).eraseIdx i=(P.ring.take j).eraseIdx i by rw [hx];exact erase_same hi)
    clear hx
    go_wp2_with fail
    go_roundw
    case rel=>exact ⟨j+1,by omega,by simp,by rw [R.out];exact HRO.out.alloc _,HB.out.alloc HB.out.size _⟩
    case measure=>simp [intOf];omega
   ·have e1:((j:Int) != (i:Int))=true:=by rw [bne_iff_ne];omega
    have R:=Lib.hid (erase_next HFF.out hx)
    have hln:((P.ring.take j).eraseIdx i).length≤1000:=by
     have h1:=(List.eraseIdx_sublist (P.ring.take j) i).length_le
     have h2:=List.length_take_le j P.ring
     omega
    have G1:=Lib.hid (show ((P.ring.take j).eraseIdx i).length+1≤maxLen by unfold maxLen;omega)
    have G2:=Lib.hid (show (((P.ring.take j).eraseIdx i).length+1)*40≤140737488355328 by omega)
    clear hln
    go_wp2_with (at_builtin;(refine wpList_append_src _ rfl (.tmp 20) (.tmp 22) 67 67 rfl w.heap.size 212 i1 _ 4 40 Tryz.underlying67 hi1 hz3 hz4 hz5 zeroCellsHeld (by decide) _ ((P.ring.take j).eraseIdx i).length _ rfl ((HRO.out.alloc _).alloc _) (.slice (some ⟨_,0,none⟩) 1 1) 1 (hdC f) rfl (Src.ofSlice _ Tryz.underlying67 ⟨_,0,none⟩ 1 1 (hdC f) rfl (World.news_of_block (heap_alloc_new2 _ _ _)) (hdC_one f)) G1.out G2.out (Nat.le_trans HB.out.size (by simp;omega)) ?_);intro v1 w6 hown1 hg1 _ hat1;have HO6:=Lib.hid hown1;have HB6:=Lib.hid ((((HB.out.alloc HB.out.size _).alloc (Nat.le_trans HB.out.size (by simp)) _).grown hg1 (Nat.le_trans HB.out.size (by simp;omega)) (fun k hk=>(HRO.out.lt k hk).1)));clear hown1 hg1 hat1)
    go_roundw
    case rel=>exact ⟨j+1,by omega,by simp,by rw [R.out,hdCells_snoc,List.length_append];exact HO6.out,HB6.out⟩
    case measure=>simp [intOf];omega
  ·obtain rfl:j=P.ring.length:=by omega
   obtain ⟨A6,k6,rfl,_⟩:=own_form HRO.out
   have E:=Lib.hid (show P.ring.take P.ring.length=P.ring from List.take_length)
   rw [E.out] at HRO ⊢
   have HQ:=Lib.hid (HH.out.below HB.out)
   have yz:=HQ.out.head.2.1
   have yf:=HQ.out.head.2.2
   obtain ⟨vv,hvv⟩:∃ vv,w.cell? ⟨q,2,none⟩=some vv:=⟨_,x2⟩
   have y2:wr.cell? ⟨q,2,none⟩=some vv:=((bcell HB.out).1 q 2 xz).trans hvv
   go_wp2_with fail
   go_end0
   have hlow:∀ k,Value.ownBlock (.slice A6 (P.ring.eraseIdx i).length k6)=some k→w.heap.size≤k:=fun k hk=>(HRO.out.lt k hk).1
   obtain ⟨k',q1,q2⟩:=HH.out.newRing (P':={ P with ring:=P.ring.eraseIdx i }) (w':=wr) hvv (below_grownBy HB.out) (own_mono0 HRO.out) (.inr hlow) rfl rfl (fun v vt=>rfl)
   exact ⟨rfl,_,q1,q2,Nat.le_add_right ..⟩
end Go.Proofs.YtjihboddejaelaaGreat
namespace Go.Proofs.YtjihboddejaelaaGreat
open Go.RowKit
open Go.BigFrame
theorem qm_Append {w:World} {rd r q:Nat} {x:Qx} {P:Pl} (h:QM w rd r q x P) (hfit:Fit P.L.D 1) (hlen:P.L.fs.length≤100000) (n:Int) (s:ByteArray) (hs:s.size≤9223372036854775807) :
 Calls Tryz.prog 151 #[.pointer (some ⟨r,0,none⟩),.int .i64 n,.string s] w (QPost2 w rd r q x 0 { P with L:=P.L.append n s } (.int .i64 (P.L.appendE n s))):=by
 refine (ref_Append x.b rd r x.c P.L n s w h.log hfit hlen hs).mono ?_
 rintro e w' ⟨rfl,b',c',hl,ht⟩
 obtain ⟨q1,q2⟩:=h.onLog hl ht
 exact ⟨rfl,_,q1,q2,Nat.le_add_right ..⟩
def Pinned (F:List Pf) (j:Nat):Prop:=∀ (i:Nat) (g:Pf),i<j→F[i]? = some g→g.pins≠0
theorem idle_here {F:List Pf} {j:Nat} {f:Pf} (hf:F[j]? = some f) (h0:f.pins=0) (hp:Pinned F j):idle F=some f:=by
 obtain ⟨hi,hfi⟩:=List.getElem?_eq_some_iff.1 hf
 have hsplit:F=F.take j++f :: F.drop (j+1):=hfi ▸ split_atF hi
 rw [hsplit]
 refine idle_at (fun g hg=>?_) h0
 obtain ⟨i,hi2,rfl⟩:=List.getElem_of_mem hg
 rw [List.length_take] at hi2
 exact hp i _ (by omega) (by rw [List.getElem_take];exact List.getElem?_eq_getElem (by omega))
theorem idle_nowhere {F:List Pf} (hp:Pinned F F.length):idle F=none:=idle_none fun f hf=>by
 obtain ⟨i,hi,rfl⟩:=List.getElem_of_mem hf
 exact hp i _ hi (List.getElem?_eq_getElem hi)
set_option maxRecDepth 100000 in
set_option maxHeartbeats 6400000 in
theorem ref_room (rd r q:Nat) (x:Qx) (P:Pl) (w:World) (h:QM w rd r q x P) (ok:P.ok) (hfit:Fit P.L.D 1) (hlen:P.L.fs.length≤100000) :
 Calls Tryz.prog 159 #[.pointer (some ⟨q,0,none⟩)] w (QPost2 w rd r q x 0 P.room.1 (.int .i64 P.room.2)):=by
 have HH:=Lib.hid h
 obtain ⟨A,k,x2,_,hF,_⟩:=h.frames
 have xz:=h.head.2.1
 have x1:=h.cells.2.1
 have HFS:=Lib.hid hF
 have hl:P.ring.length≤64:=Nat.le_trans ok.full ok.most
 have hm:=ok.most
 have OK:=Lib.hid ok
 have FIT:=Lib.hid hfit
 have LEN:=Lib.hid hlen
 clear h hF ok hfit hlen
 by_cases hr:P.ring.length<P.most
 ·have E:=Lib.hid (show P.room=(P,0) from if_pos hr)
  have e1:decide ((P.ring.length:Int)<(P.most:Int))=true:=by simpa using hr
  go_enter Tryz.func159,Tryz.ntmps159
  go_wp2_with fail
  refine wp_region_cls (w) (by kernel_rfl) (by kernel_rfl) (Cls.start _) ?_
  repeat
   first
    | go_big_quiet_skip
    | (go_big_quiet_want;(first | go_big_quiet_op | go_simp);first | go_big_quiet_on | (apply Exists.intro;refine ⟨fun w' hw'=>?_, ?_⟩;(·(first | (with_reducible exact rfl) | (fail) | (obtain ⟨hc,hf⟩:=hw'.facts;go_simp;first | done | (with_reducible exact rfl) | (with_reducible exact ⟨rfl,rfl⟩))));go_big_quiet_on))
  refine wpQuiet_nil ?_
  intro wq hq
  have HQ:=Lib.hid hq
  clear hq
  go_wp2_with fail
  go_ret
  rw [E.out]
  exact ⟨rfl,x,HH.out.below HQ.out,Turn.below _ HQ.out,Nat.le_add_right ..⟩
 ·have e1:decide ((P.ring.length:Int)<(P.most:Int))=false:=by simpa using hr
  have HR:=Lib.hid (show P.room=match idle P.ring with | none=>(P,6) | some f=>P.spill f from if_neg hr)
  go_enter Tryz.func159,Tryz.ntmps159
  go_wp2_with fail
  refine wp_region_cls (w) (by kernel_rfl) (by kernel_rfl) (Cls.start _) ?_
  repeat
   first
    | go_big_quiet_skip
    | (go_big_quiet_want;(first | go_big_quiet_op | go_simp);first | go_big_quiet_on | (apply Exists.intro;refine ⟨fun w' hw'=>?_, ?_⟩;(·(first | (with_reducible exact rfl) | (fail) | (obtain ⟨hc,hf⟩:=hw'.facts;go_simp;first | done | (with_reducible exact rfl) | (with_reducible exact ⟨rfl,rfl⟩))));go_big_quiet_on))
  refine wpQuiet_nil ?_
  intro wq hq
  have HQ:=Lib.hid hq
  have y2:=((bcell hq).1 q 2 xz).trans x2
  have yz:=Nat.lt_of_lt_of_le xz hq.size
  clear hq e1 x1 x2 xz hr
  go_wp2_with fail
  go_loopw [21] (fun v21 wr=>∃ j:Nat,j≤P.ring.length∧v21 = .int .i64 j∧Pinned P.ring j∧Below w.heap.size w wr) (fun v21 _=>P.ring.length-(intOf v21).toNat)
  case atStart=>exact ⟨0,Nat.zero_le _,rfl,fun i g hi _=>absurd hi (by omega),HQ.out⟩
  case round =>
   obtain ⟨j,hj,rfl,he,hb⟩:=hrel
   have HE:=Lib.hid he
   have HB:=Lib.hid hb
   clear he hb HQ y2 yz
   by_cases hj2:j<P.ring.length
   ·obtain ⟨f,hf⟩:∃ f,P.ring[j]? = some f:=⟨_,List.getElem?_eq_getElem hj2⟩
    obtain ⟨g,rfl,hg,_,hcc⟩:=HFS.out.2 (by omega)
    obtain ⟨a0,a1,a2,a3⟩:=hcc j f hf
    obtain ⟨wcl,wfl⟩:=bcell HB.out
    have d0:=(wcl g (j*4) hg).trans a0
    have d1:=(wcl g (j*4+1) hg).trans a1
    have d2:=(wcl g (j*4+2) hg).trans a2
    have d3:=(wcl g (j*4+3) hg).trans a3
    have HFF:=Lib.hid hf
    have HD:=Lib.hid (HH.out.below HB.out)
    clear hcc a0 a1 a2 a3 wcl wfl hf
    by_cases hp0:f.pins=0
    ·rw [hp0] at d2
     have d2:wr.cell? ⟨g,j*4+2,none⟩=some (.int .i64 0):=d2
     have HI:Hid (P.room=P.spill f):=by
      have:=HR.out
      rw [idle_here HFF.out hp0 HE.out] at this
      exact this
     have HDR:=Lib.hid (dropN_erase OK.out.names HFF.out)
     have BX:=Lib.hid (HB.out.alloc HB.out.size (.cells #[.int .i64 f.n,.string f.s,.int .i64 0,.bool f.dirty] 212))
     clear hp0
     cases hdir:f.dirty
     ·rw [hdir] at d3 BX
      have HS:Hid (P.room=({ P with ring:=P.ring.eraseIdx j },0)):=by
       rw [HI.out];unfold Pl.spill;rw [hdir,HDR.out];rfl
      have WT:=Lib.hid (fun u (hu:QM u rd r q x P)=>ref_without rd r q x P j u hu (by omega) hj2)
      clear hdir
      go_wp2_with (go_at_call 166;(with_reducible refine (WT.out _ (HH.out.below BX.out)).mono ?_);rintro e2 w2 ⟨rfl,x2,hq2,ht2,hn2⟩)
      go_ret
      rw [HS.out]
      exact ⟨rfl,x2,hq2,(Turn.below _ BX.out).trans ht2,hn2⟩
     ·rw [hdir] at d3 BX
      obtain ⟨E,hE⟩:∃ E,P.L.appendE f.n f.s=E:=⟨_,rfl⟩
      have AP:=Lib.hid (fun u (hu:Below w.heap.size w u)=>qm_Append (HH.out.below hu) FIT.out LEN.out f.n f.s (by have:=OK.out.size f (List.mem_of_getElem? HFF.out);omega))
      have APT:=Lib.hid (fun u (hu:Below w.heap.size w u)=>Turn.below x.all hu)
      rw [hE] at AP
      have HS:Hid (P.room=if E=0 then ({ P with L:=P.L.append f.n f.s,spills:=wrap64 (P.spills+1),ring:=P.ring.eraseIdx j },0) else ({ P with L:=P.L.append f.n f.s },E)):=by
       rw [HI.out];unfold Pl.spill;rw [hdir,HDR.out,hE];rfl
      have z0:=(HH.out.below BX.out).cells.1
      have zz:=(HH.out.below BX.out).head.2.1
      have HX:=Lib.hid (Has.new wr 212 #[.int .i64 f.n,.string f.s,.int .i64 0,.bool true])
      obtain ⟨zb,hzb⟩:∃ z,wr.heap.size=z:=⟨_,rfl⟩
      clear hdir hE
      go_upto_region 8 with fail
      rw [hzb] at HX
      clear hzb
      generalize (wr.alloc (.cells #[.int .i64 f.n,.string f.s,.int .i64 0,.bool true] 212))=W at *
      obtain ⟨b0,b1,b2,b3⟩:=HX.out.cells4r
      have bz:=HX.out.lt
      go_region_with (go_at_call 151;(with_reducible refine (AP.out _ BX.out.drew).mono ?_);rintro e2 w1 ⟨rfl,x1,hq1,ht1,hn1⟩)
      all_goals
       have HM:=Lib.hid hq1
       have HT:=Lib.hid ((APT.out _ BX.out.drew).trans ht1)
       have HN:=Lib.hid hn1
       clear hq1 ht1 hn1
       by_cases hE0:E=0
       ·subst hE0
        have HS0:=Lib.hid (HS.out.trans (if_pos rfl))
        clear HS
        obtain ⟨_,_,_,_,_,y7⟩:=HM.out.cells
        have yf:=HM.out.head.2.2
        have yz:=HM.out.head.2.1
        have ST:=Lib.hid (HM.out.set (P':={ P with L:=P.L.append f.n f.s,spills:=wrap64 (P.spills+1) }) 7 (.int .i64 (wrap64 (P.spills+1))) rfl rfl rfl (fun _ _=>rfl))
        have WT:=Lib.hid (ref_without rd r q x1 { P with L:=P.L.append f.n f.s,spills:=wrap64 (P.spills+1) } j _ ST.out.1 (by show P.ring.length≤1000;omega) hj2)
        dsimp only at y7
        go_wp2_with (go_at_call 166;(with_reducible refine WT.out.mono ?_);rintro e2 w2 ⟨rfl,x2,hq2,ht2,hn2⟩)
        go_ret
        rw [HS0.out]
        exact ⟨rfl,x2,hq2,(HT.out.trans ST.out.2).trans ht2,by have:=HN.out;omega⟩
       ·have HS0:=Lib.hid (HS.out.trans (if_neg hE0))
        clear HS
        go_wp2_with fail
        go_ret
        rw [HS0.out]
        exact ⟨rfl,x1,HM.out,HT.out,HN.out⟩
    ·have g0:((f.pins:Int) == 0)=false:=by rw [beq_eq_false_iff_ne];omega
     have HP0:=Lib.hid hp0
     clear hp0
     go_wp2_with fail
     go_roundw
     case rel=>exact ⟨j+1,by omega,by simp,fun i g hi hg=>by
      rcases Nat.lt_or_ge i j with h1 | h1
      ·exact HE.out i g h1 hg
      ·obtain rfl:i=j:=by omega
       rw [HFF.out] at hg;cases hg;exact HP0.out,HB.out.alloc HB.out.size _⟩
     case measure=>simp [intOf];omega
   ·obtain rfl:j=P.ring.length:=by omega
    have HS:Hid (P.room=(P,6)):=by
     have:=HR.out
     rw [idle_nowhere HE.out] at this
     exact this
    go_wp2_with fail
    go_ret
    rw [HS.out]
    exact ⟨rfl,x,HH.out.below HB.out,Turn.below _ HB.out,Nat.le_add_right ..⟩
end Go.Proofs.YtjihboddejaelaaGreat
namespace Go.Proofs.YtjihboddejaelaaGreat
open Go.RowKit
open Go.BigFrame
theorem heap_new_set (w:World) (a:Addr) (u:Value) (o:Obj):((w.setCell a u).alloc o).heap[w.heap.size]? = some o:=by
 have h:=heap_alloc_new (w.setCell a u) o
 rw [show (w.setCell a u).heap.size=w.heap.size by simp] at h
 exact h
theorem append_upL {L:Lg} {n:Int} {t:ByteArray} (hd:L.D.down=false) (he:L.appendE n t=0):(L.append n t).D.down=false:=by
 unfold Lg.appendE at he
 unfold Lg.append
 by_cases h1:L.fitsA n t
 ·rw [if_pos h1] at he
  by_cases h2:L.at_+1028≤67108864
  ·rw [if_pos h2] at he
   rw [if_pos ⟨h1,h2⟩]
   have hst:¬ L.D.stops:=fun h=>by unfold Dk.turnE at he;rw [if_pos h] at he;cases he
   show (L.D.write 1 _ _).down=false
   unfold Dk.write
   split
   ·unfold Dk.change;rw [if_neg hst]
    show L.D.turn.down=false
    unfold Dk.turn;rw [if_neg hst];exact hd
   ·exact hd
  ·rw [if_neg h2] at he;cases he
 ·rw [if_neg h1] at he;cases he
section
variable {P:Pl}
theorem spill_up (hd:P.L.D.down=false) {f:Pf} (h:(P.spill f).2=0):(P.spill f).1.L.D.down=false:=by
 unfold Pl.spill at h ⊢
 by_cases h1:f.dirty=true
 ·rw [if_pos h1] at h ⊢
  by_cases h2:P.L.appendE f.n f.s=0
  ·rw [if_pos h2];exact append_upL hd h2
  ·rw [if_neg h2] at h;exact absurd h h2
 ·rw [if_neg h1];exact hd
theorem room_up (hd:P.L.D.down=false) (h:P.room.2=0):P.room.1.L.D.down=false:=by
 unfold Pl.room at h ⊢
 by_cases h1:P.ring.length<P.most
 ·rw [if_pos h1];exact hd
 ·rw [if_neg h1] at h ⊢
  cases hi:idle P.ring with
  | none=>rw [hi] at h;cases h
  | some f=>rw [hi] at h;exact spill_up hd h
theorem fetch_up (hd:P.L.D.down=false) (x:Nat):(P.fetch x).1.L.D.down=false:=by
 unfold Pl.fetch;split <;> exact hd
theorem get_up (hd:P.L.D.down=false) {x:Int} (h:(P.get x).2=0):(P.get x).1.L.D.down=false:=by
 unfold Pl.get at h ⊢
 split at h
 ·rename_i h0
  rw [if_pos h0]
  cases hi:findN x P.ring with
  | some f=>exact hd
  | none =>
    rw [hi] at h
    by_cases h1:P.room.2=0
    ·simp only [if_pos h1] at h ⊢
     exact fetch_up (room_up hd h1) _
    ·simp only [if_neg h1] at h
     exact absurd h h1
 ·cases h
theorem room_frames:P.room.1.L.fs.length≤P.L.fs.length+1:=by
 unfold Pl.room
 split
 ·show P.L.fs.length≤_;omega
 ·split
  ·show P.L.fs.length≤_;omega
  ·rename_i f _
   unfold Pl.spill
   have h:(P.L.append f.n f.s).fs.length≤P.L.fs.length+1:=by
    unfold Lg.append
    split
    ·show (if _ then _ else _:List Fr).length≤_
     split <;> simp
    ·omega
   split
   ·split <;> exact h
   ·show P.L.fs.length≤_;omega
theorem get_frames (x:Int):(P.get x).1.L.fs.length≤P.L.fs.length+1:=by
 unfold Pl.get
 split
 ·split
  ·show P.L.fs.length≤_;omega
  ·split
   ·unfold Pl.fetch
    split <;> exact room_frames
   ·exact room_frames
 ·show P.L.fs.length≤_;omega
theorem room_missing {x:Int} (h:findN x P.ring=none):findN x P.room.1.ring=none:=by
 have hs:=(room_same (P:=P)).2.2.2.2
 unfold findN at h ⊢
 rw [List.find?_eq_none] at h ⊢
 exact fun f hf=>h f (hs f hf)
end
theorem qm_Read {w:World} {rd r q:Nat} {x:Qx} {P:Pl} (h:QM w rd r q x P) (ok:P.L.ok) (hd:P.L.D.down=false) (hws:P.L.D.waits.length≤1000000000) (hlen:P.L.fs.length≤100000) (n:Int) :
 Calls Tryz.prog 68 #[.pointer (some ⟨r,0,none⟩),.int .i64 n] w fun e w'=>e = .returned (.tuple #[.string (P.L.rw.readS n),.int .i64 (P.L.rw.readE n)])∧Below w.heap.size w w':=by
 rw [← (rw_read ok hd n).1,← (rw_read ok hd n).2]
 exact ref_Read x.b rd r x.c P.L n w h.log ok.disk hws hd hlen
set_option maxRecDepth 100000 in
set_option maxHeartbeats 6400000 in
theorem ref_use (rd r q:Nat) (x:Qx) (P:Pl) (n:Int) (w:World) (h:QM w rd r q x P) (ok:P.ok) (hd:P.L.D.down=false) (hfit:Fit P.L.D 1) (hlen:P.L.fs.length≤90000) :
 Calls Tryz.prog 154 #[.pointer (some ⟨q,0,none⟩),.int .i64 n] w (QPost2 w rd r q x 0 (P.get n).1 (.int .i64 (P.get n).2)):=by
 have HH:=Lib.hid h
 obtain ⟨x0,x1,x3,x5,x6,x7⟩:=h.cells
 have xz:=h.head.2.1
 have xf:=h.head.2.2
 have hl:P.ring.length≤64:=Nat.le_trans ok.full ok.most
 have few:=ok.few
 have OK:=Lib.hid ok
 have FIT:=Lib.hid hfit
 have LEN:=Lib.hid hlen
 have UP:=Lib.hid hd
 have IN:=Lib.hid (fun w1=>ref_inB n 0 ((P.pages:Int)-1) w1)
 have FD:=Lib.hid (fun w1 (h1:QM w1 rd r q x P)=>ref_find rd r q x P n w1 h1 (by omega))
 clear h ok hfit hlen hd
 by_cases hn:0≤n∧n<(P.pages:Int)
 ·rw [inB_yes hn.1 (by omega)] at IN
  obtain ⟨N,rfl⟩:∃ N:Nat,n=N:=⟨n.toNat,by omega⟩
  rcases idx_cases N P.ring with ⟨c1,c2⟩ | ⟨i,f,c1,c2,c3,c4,c5⟩
  ·have HG:=Lib.hid (show P.get N=if P.room.2=0 then P.room.1.fetch N else P.room by unfold Pl.get;rw [if_pos hn,c1];rfl)
   have MISS:=Lib.hid (room_missing c1)
   rw [c2] at FD
   have RM:=Lib.hid (fun w1 (h1:QM w1 rd r q x P)=>ref_room rd r q x P w1 h1 OK.out FIT.out (by have:=LEN.out;omega))
   obtain ⟨E,hE⟩:∃ E,P.room.2=E:=⟨_,rfl⟩
   rw [hE] at HG RM
   have HE:=Lib.hid hE
   clear hE c1 c2 hn
   by_cases hE0:E=0
   ·subst hE0
    have HG0:=Lib.hid (HG.out.trans (if_pos rfl))
    have UP1:=Lib.hid (room_up UP.out HE.out)
    have OK1:=Lib.hid (room_ok OK.out)
    have HE0:=HE.out
    have F1:=Lib.hid (room_fit (k:=0) FIT.out)
    have L1:=Lib.hid (room_frames (P:=P))
    have SM:=Lib.hid (room_same (P:=P))
    obtain ⟨R,hR⟩:∃ R,P.room.1=R:=⟨_,rfl⟩
    rw [hR] at HG0 UP1 OK1 F1 L1 SM RM MISS
    have RDR:=Lib.hid (fun w1 x1 (h1:QM w1 rd r q x1 R)=>qm_Read h1 OK1.out.1.log UP1.out (by have:=F1.out.waits;omega) (by have:=L1.out;have:=LEN.out;omega) N)
    obtain ⟨S,hS⟩:∃ S,R.L.rw.readS N=S:=⟨_,rfl⟩
    obtain ⟨E2,hE2⟩:∃ S,R.L.rw.readE N=S:=⟨_,rfl⟩
    rw [hS,hE2] at RDR
    have HF:Hid (R.fetch N=if E2=0 then ({ R with misses:=wrap64 (R.misses+1),ring:=R.ring++[⟨N,S,0,false⟩] },0) else (R,E2)):=by
     unfold Pl.fetch;rw [hE2,hS];exact Lib.hid rfl
    clear hR hS hE2 HG HE
    have w1e:wrap64 ((P.pages:Int)-1)=(P.pages:Int)-1:=IntWalk.wrap64_in _ (by omega)
    go_enter Tryz.func154,Tryz.ntmps154
    go_upto_region 14 with (first | (go_at_call 63;refine (IN.out _).mono ?_;rintro e w1 ⟨rfl,rfl⟩) | (go_at_call 157;(with_reducible refine (FD.out _ HH.out).mono ?_);rintro e w1 ⟨rfl,hb1⟩;have HB1:=Lib.hid hb1;clear hb1) | (go_at_call 159;(with_reducible refine (RM.out _ (HH.out.below HB1.out)).mono ?_);rintro e w2 ⟨rfl,x2,hq2,ht2,hn2⟩;have HQ2:=Lib.hid hq2;have HT2:=Lib.hid ((Turn.below _ HB1.out).trans ht2);have HN2:=Lib.hid hn2;have y0:=hq2.cells.1;have yz:=hq2.head.2.1;clear hq2 ht2 hn2) | (go_at_call 68;(with_reducible refine (RDR.out _ _ HQ2.out).mono ?_);rintro e w3 ⟨rfl,hb3⟩))
    have HQ3:=Lib.hid (HQ2.out.below hb3)
    have HT3:=Lib.hid (HT2.out.trans (Turn.below _ hb3))
    clear hb3 y0 yz x0 x1 x3 x5 x6 x7 xz xf
    by_cases hE20:E2=0
    ·subst hE20
     have HF0:=Lib.hid (HF.out.trans (if_pos rfl))
     obtain ⟨z0,z1,z3,z5,z6,z7⟩:=HQ3.out.cells
     have zz:=HQ3.out.head.2.1
     have zf:=HQ3.out.head.2.2
     have ST:=Lib.hid (HQ3.out.set (P':={ R with misses:=wrap64 (R.misses+1) }) 6 (.int .i64 (wrap64 (R.misses+1))) rfl rfl rfl (fun _ _=>rfl))
     obtain ⟨A,k,z2,_,_,hown,_⟩:=ST.out.1.frames
     have HOWN:=Lib.hid hown
     have Z2:=Lib.hid z2
     have z2:w3.cell? ⟨q,2,none⟩=some (.slice A R.ring.length k):=(World.cell?_setCell_other _ ⟨q,6,none⟩ ⟨q,2,none⟩ _ (by simp)).symm.trans Z2.out
     obtain ⟨i1,hi1,hz3,hz4,hz5⟩:=info_parts infoHeld
     have rl:R.ring.length<64:=by have:=OK1.out.2 HE0;have:=OK.out.most;omega
     have G1:=Lib.hid (show R.ring.length+1≤maxLen by unfold maxLen;omega)
     have G2:=Lib.hid (show (R.ring.length+1)*40≤140737488355328 by omega)
     clear hown rl z5 z7 z1 z3
     go_wp2_with (at_builtin;(go_loud (refine wpList_append_src _ rfl (.tmp 82) (.tmp 86) 67 67 rfl 0 212 i1 _ 4 40 Tryz.underlying67 hi1 hz3 hz4 hz5 zeroCellsHeld (by decide) (.slice A R.ring.length k) R.ring.length (hdCells R.ring) rfl (HOWN.out.alloc _) (.slice (some ⟨_,0,none⟩) 1 1) 1 (hdC ⟨N,S,0,false⟩) rfl (Src.ofSlice _ Tryz.underlying67 ⟨_,0,none⟩ 1 1 (hdC ⟨N,S,0,false⟩) rfl (World.news_of_block (heap_new_set _ _ _ _)) (hdC_one _)) G1.out G2.out (Nat.zero_le _) ?_));intro v7 w7 hown7 hg7 _ hat7;obtain ⟨A7,k7,rfl,_⟩:=own_form hown7;have AR:=Lib.hid (ST.out.1.appRing (P':={ R with misses:=wrap64 (R.misses+1),ring:=R.ring++[⟨N,S,0,false⟩] }) Z2.out ((Below.refl _ _).alloc (Nat.le_refl _) _) hown7 hg7 hat7 rfl rfl rfl (fun _ _=>rfl));have g2:=AR.out.1.1;have gz:=AR.out.1.2.1;have gf:=AR.out.1.2.2;clear hown7 hg7 hat7)
     go_ret
     rw [HG0.out,HF0.out]
     obtain ⟨k',q1,q2⟩:=AR.out.2
     exact ⟨rfl,_,q1,(HT3.out.trans ST.out.2).trans q2,HN2.out⟩
    ·have HF0:=Lib.hid (HF.out.trans (if_neg hE20))
     go_wp2_with fail
     go_ret
     rw [HG0.out,HF0.out]
     exact ⟨rfl,x2,HQ3.out,HT3.out,HN2.out⟩
   ·have HG0:=Lib.hid (HG.out.trans (if_neg hE0))
    have w1e:wrap64 ((P.pages:Int)-1)=(P.pages:Int)-1:=IntWalk.wrap64_in _ (by omega)
    go_enter Tryz.func154,Tryz.ntmps154
    go_wp2_with (first | (go_at_call 63;refine (IN.out _).mono ?_;rintro e w1 ⟨rfl,rfl⟩) | (go_at_call 157;(with_reducible refine (FD.out _ HH.out).mono ?_);rintro e w1 ⟨rfl,hb1⟩;have HB1:=Lib.hid hb1;clear hb1) | (go_at_call 159;(with_reducible refine (RM.out _ (HH.out.below HB1.out)).mono ?_);rintro e w2 ⟨rfl,x2,hq2,ht2,hn2⟩))
    go_ret
    rw [HG0.out,HE.out]
    exact ⟨rfl,x2,hq2,(Turn.below _ HB1.out).trans ht2,hn2⟩
  ·have HG:Hid (P.get N=({ P with hits:=wrap64 (P.hits+1),ring:=P.ring.eraseIdx i++[f] },0)):=by
    rw [← dropN_erase OK.out.names c1]
    unfold Pl.get
    rw [if_pos hn,c3];exact Lib.hid rfl
   rw [c4] at FD
   have hi:=(List.getElem?_eq_some_iff.1 c1).1
   obtain ⟨A,k,x2,_,hF,_,hgq⟩:=HH.out.frames
   obtain ⟨g,rfl,hg,_,hcc⟩:=hF.2 (by omega)
   have hgq:=(hgq g rfl).2
   obtain ⟨a0,a1,a2,a3⟩:=hcc i f c1
   have w1e:wrap64 ((P.pages:Int)-1)=(P.pages:Int)-1:=IntWalk.wrap64_in _ (by omega)
   have ix:i≤64:=by omega
   have WT:=Lib.hid (fun w1 (h1:QM w1 rd r q x { P with hits:=wrap64 (P.hits+1) })=>ref_without rd r q x { P with hits:=wrap64 (P.hits+1) } i w1 h1 (by show P.ring.length≤1000;omega) hi)
   have EL:(P.ring.eraseIdx i).length≤64:=Nat.le_trans (List.eraseIdx_sublist P.ring i).length_le hl
   obtain ⟨F4,hF4⟩:∃ F,P.ring.eraseIdx i=F:=⟨_,rfl⟩
   simp only [hF4] at WT HG EL
   have G1:=Lib.hid (show F4.length+1≤maxLen by unfold maxLen;omega)
   have G2:=Lib.hid (show (F4.length+1)*40≤140737488355328 by omega)
   have HI:=Lib.hid hi
   clear hF hcc c1 c2 c3 c4 c5 hn hF4 EL hi
   go_enter Tryz.func154,Tryz.ntmps154
   go_upto_region 7 with (first | (go_at_call 63;refine (IN.out _).mono ?_;rintro e w1 ⟨rfl,rfl⟩) | (go_at_call 157;(with_reducible refine (FD.out _ HH.out).mono ?_);rintro e w1 ⟨rfl,hb1⟩;have HB1:=Lib.hid hb1;have HQ1:=Lib.hid (HH.out.below hb1);obtain ⟨y0,y1,y3,y5,y6,y7⟩:=HQ1.out.cells;have yz:=HQ1.out.head.2.1;have yf:=HQ1.out.head.2.2;have y2:=((bcell hb1).1 q 2 xz).trans x2;have d0:=((bcell hb1).1 g (i*4) hg).trans a0;have d1:=((bcell hb1).1 g (i*4+1) hg).trans a1;have d2:=((bcell hb1).1 g (i*4+2) hg).trans a2;have d3:=((bcell hb1).1 g (i*4+3) hg).trans a3;clear hb1 x0 x1 x2 x3 x5 x6 x7))
   have ST:=Lib.hid (HQ1.out.set (P':={ P with hits:=wrap64 (P.hits+1) }) 5 (.int .i64 (wrap64 (P.hits+1))) rfl rfl rfl (fun _ _=>rfl))
   have BX:=Lib.hid ((Below.refl _ (w1.setCell ⟨q,5,none⟩ (.int .i64 (wrap64 (P.hits+1))))).alloc (Nat.le_refl _) (.cells #[.int .i64 f.n,.string f.s,.int .i64 f.pins,.bool f.dirty] 212))
   have HX:Hid (Has ((w1.setCell ⟨q,5,none⟩ (.int .i64 (wrap64 (P.hits+1)))).alloc (.cells #[.int .i64 f.n,.string f.s,.int .i64 f.pins,.bool f.dirty] 212)) w1.heap.size 212 #[.int .i64 f.n,.string f.s,.int .i64 f.pins,.bool f.dirty]):=by
    have:=Has.new (w1.setCell ⟨q,5,none⟩ (.int .i64 (wrap64 (P.hits+1)))) 212 #[.int .i64 f.n,.string f.s,.int .i64 f.pins,.bool f.dirty]
    rw [show (w1.setCell ⟨q,5,none⟩ (.int .i64 (wrap64 (P.hits+1)))).heap.size=w1.heap.size by simp] at this
    exact Lib.hid this
   have NX:Hid (some w1.heap.size∉x.all):=Lib.hid fun h2=>by have:=HQ1.out.lt h2;omega
   have HW:=Lib.hid (ST.out.1.below BX.out)
   have HT:=Lib.hid (((Turn.below _ HB1.out).trans ST.out.2).trans (Turn.below _ BX.out))
   obtain ⟨z,hz⟩:∃ z,w1.heap.size=z:=⟨_,rfl⟩
   rw [hz] at HX NX ⊢
   clear y0 y1 y3 y5 y6 y7 yz yf y2 d0 d1 d2 d3 BX ST a0 a1 a2 a3
   generalize ((w1.setCell ⟨q,5,none⟩ (.int .i64 (wrap64 (P.hits+1)))).alloc (.cells #[.int .i64 f.n,.string f.s,.int .i64 f.pins,.bool f.dirty] 212))=W at *
   go_upto_region 8 with (go_at_call 166;(with_reducible refine (WT.out _ HW.out).mono ?_);rintro e w4 ⟨rfl,x4,hq4,ht4,hn4⟩)
   have HX4:=Lib.hid (HX.out.turn ht4 NX.out)
   have HT4:=Lib.hid (HT.out.trans ht4)
   have HQ4:=Lib.hid hq4
   have HN4:=Lib.hid hn4
   obtain ⟨A4,k4,v2,_,_,hown4,_⟩:=hq4.frames
   dsimp only at v2 hown4
   have V2:=Lib.hid v2
   have HOWN:=Lib.hid hown4
   have vz:=hq4.head.2.1
   have vf:=hq4.head.2.2
   obtain ⟨b0,b1,b2,b3⟩:=HX4.out.cells4r
   have bz:=HX4.out.lt
   obtain ⟨i1,hi1,hz3,hz4,hz5⟩:=info_parts infoHeld
   clear hq4 ht4 hn4 hown4 hz HI
   go_region_law
    (refine step_append_src (by rfl) _ _ _ _ (by rfl) 0 212 i1 _ 4 40 Tryz.underlying67 hi1 hz3 hz4 hz5 zeroCellsHeld (by omega) (.slice A4 F4.length k4) F4.length (hdCells F4) (by rfl) (HOWN.out.drew.alloc _) _ 1 (hdC f) (by rfl) (Src.ofSlice _ Tryz.underlying67 ⟨_,0,none⟩ 1 1 (hdC f) rfl (World.news_of_block (heap_alloc_new _ _)) (hdC_one f)) G1.out G2.out (Nat.zero_le _) ?_;intro A5 k5 w5 hown5 hgrow hat;have AR:=Lib.hid (HQ4.out.appRing (P':={ P with hits:=wrap64 (P.hits+1),ring:=F4++[f] }) V2.out ((Below.refl _ _).drew.alloc (Nat.le_refl _) _) hown5 hgrow hat rfl rfl rfl (fun _ _=>rfl));have gf5:=AR.out.1.2.2;have gc5:=AR.out.1.1;have gz5:=AR.out.1.2.1)
   all_goals
    go_wp2_with fail
    go_ret
    rw [HG.out]
    obtain ⟨k',q1,q2⟩:=AR.out.2
    exact ⟨rfl,_,q1,HT4.out.trans q2,HN4.out⟩
 ·rw [inB_no (by omega)] at IN
  have HG:=Lib.hid (show P.get n=(P,7) from if_neg hn)
  have w1e:wrap64 ((P.pages:Int)-1)=(P.pages:Int)-1:=IntWalk.wrap64_in _ (by omega)
  clear hn
  go_enter Tryz.func154,Tryz.ntmps154
  go_wp2_with (go_at_call 63;refine (IN.out _).mono ?_;rintro e w1 ⟨rfl,rfl⟩)
  go_ret
  rw [HG.out]
  exact QPost2.refl HH.out 0
end Go.Proofs.YtjihboddejaelaaGreat
namespace Go.Proofs.YtjihboddejaelaaGreat
open Go.RowKit
open Go.BigFrame
theorem QM.lastCells {w:World} {rd r q:Nat} {x:Qx} {P:Pl} {F0:List Pf} {f:Pf} (h:QM w rd r q x P) (hF:P.ring=F0++[f]) :
 ∃ g k,w.cell? ⟨q,2,none⟩=some (.slice (some ⟨g,0,none⟩) P.ring.length k)∧g<w.heap.size∧(∀ i,w.frozen? ⟨g,i,none⟩=false)∧P.ring[F0.length]? = some f ∧
   w.cell? ⟨g,F0.length*4,none⟩=some (.int .i64 f.n)∧w.cell? ⟨g,F0.length*4+1,none⟩=some (.string f.s)∧w.cell? ⟨g,F0.length*4+2,none⟩=some (.int .i64 f.pins)∧w.cell? ⟨g,F0.length*4+3,none⟩=some (.bool f.dirty):=by
 obtain ⟨A,k,x2,_,hS,_⟩:=h.frames
 obtain ⟨g,rfl,hg,hfz,hcc⟩:=hS.2 (by rw [hF];simp)
 have hf:P.ring[F0.length]? = some f:=by rw [hF];simp
 exact ⟨g,k,x2,hg,hfz,hf,hcc _ _ hf⟩
theorem set_last {F0:List Pf} {f f':Pf}:(F0++[f]).set F0.length f'=F0++[f']:=by simp
theorem get_ring {P:Pl} (ok:P.ok) (x:Int):(P.get x).1.ring.length≤64:=by
 have h:=get_ok ok x
 exact Nat.le_trans h.full h.most
set_option maxRecDepth 100000 in
set_option maxHeartbeats 6400000 in
theorem ref_PRead (rd r q:Nat) (x:Qx) (P:Pl) (n:Int) (w:World) (h:QM w rd r q x P) (ok:P.ok) (hd:P.L.D.down=false) (hfit:Fit P.L.D 1) (hlen:P.L.fs.length≤90000) :
 Calls Tryz.prog 71 #[.pointer (some ⟨q,0,none⟩),.int .i64 n] w (QPost2 w rd r q x 0 (P.get n).1 (.tuple #[.string (P.text n),.int .i64 (P.get n).2])):=by
 have US:=Lib.hid (ref_use rd r q x P n w h ok hd hfit hlen)
 have GL:=Lib.hid (get_last ok (x:=n))
 have RL:=Lib.hid (get_ring ok n)
 have TX:Hid (P.text n=if (P.get n).2=0 then (P.get n).1.lastF.s else ⟨#[]⟩):=rfl
 obtain ⟨T,hT⟩:∃ T,P.text n=T:=⟨_,rfl⟩
 obtain ⟨Q,hQ⟩:∃ Q,(P.get n).1=Q:=⟨_,rfl⟩
 obtain ⟨E,hE⟩:∃ E,(P.get n).2=E:=⟨_,rfl⟩
 rw [hT,hQ,hE] at TX
 rw [hQ,hE] at US GL
 rw [hQ] at RL
 rw [hT,hQ,hE]
 clear h ok hd hfit hlen hT hQ hE
 by_cases hE0:E=0
 ·subst hE0
  obtain ⟨F0,f,hF,hfx,i0,i1⟩:=GL.out rfl
  have HT:Hid (T=f.s):=by have:=TX.out;rw [if_pos rfl,(lastF_snoc hF).1] at this;exact this
  have HF:=Lib.hid hF
  have hl:Q.ring.length=F0.length+1:=by rw [hF];simp
  have LS:=Lib.hid (fun w2 x2 g k (h2:QM w2 rd r q x2 Q) (hA:w2.cell? ⟨q,2,none⟩=some (.slice (some ⟨g,0,none⟩) Q.ring.length k))=>ref_last rd r q x2 Q g k F0.length w2 h2 hl (by have:=RL.out;omega) hA)
  clear TX GL hfx i0 i1 hF hl
  go_enter Tryz.func71,Tryz.ntmps71
  go_wp2_with (first | (go_at_call 154;(with_reducible refine US.out.mono ?_);rintro e w2 ⟨rfl,x2,hq2,ht2,hn2⟩;obtain ⟨g,k,c2,gz,gf,_,d0,d1,d2,d3⟩:=hq2.lastCells HF.out;have HQ2:=Lib.hid hq2;have HT2:=Lib.hid ht2;have HN2:=Lib.hid hn2;have C2:=Lib.hid c2;clear hq2 ht2 hn2 c2) | (go_at_call 155;(with_reducible refine (LS.out _ _ _ _ HQ2.out C2.out).mono ?_);rintro e w3 ⟨rfl,hb3⟩;have HB3:=Lib.hid hb3;have f1:=((bcell hb3).1 g (F0.length*4+1) gz).trans d1;have gz3:=Nat.lt_of_lt_of_le gz hb3.size;clear hb3 d0 d1 d2 d3))
  go_ret2
  rw [HT.out]
  exact ⟨rfl,x2,HQ2.out.below HB3.out,HT2.out.trans (Turn.below _ HB3.out),HN2.out⟩
 ·have HT:Hid (T=⟨#[]⟩):=by have:=TX.out;rw [if_neg hE0] at this;exact this
  clear TX GL
  go_enter Tryz.func71,Tryz.ntmps71
  go_wp2_with (go_at_call 154;(with_reducible refine US.out.mono ?_);rintro e w2 ⟨rfl,x2,hq2,ht2,hn2⟩)
  go_ret2
  rw [HT.out]
  exact ⟨rfl,x2,hq2,ht2,hn2⟩
theorem pin_eq {P:Pl} {x:Int} {F0:List Pf} {f:Pf} (h:(P.get x).2=0) (hF:(P.get x).1.ring=F0++[f]):P.pin x=({ (P.get x).1 with ring:=F0++[{ f with pins:=f.pins+1 }] },0):=by
 unfold Pl.pin
 rw [if_pos h,(lastF_snoc hF).1,(lastF_snoc hF).2]
set_option maxRecDepth 100000 in
set_option maxHeartbeats 6400000 in
theorem ref_Pin (rd r q:Nat) (x:Qx) (P:Pl) (n:Int) (w:World) (h:QM w rd r q x P) (ok:P.ok) (hd:P.L.D.down=false) (hfit:Fit P.L.D 1) (hlen:P.L.fs.length≤90000) (hp:∀ f∈(P.get n).1.ring,f.pins≤1000000) :
 Calls Tryz.prog 76 #[.pointer (some ⟨q,0,none⟩),.int .i64 n] w (QPost2 w rd r q x 0 (P.pin n).1 (.int .i64 (P.pin n).2)):=by
 have US:=Lib.hid (ref_use rd r q x P n w h ok hd hfit hlen)
 have RL:=Lib.hid (get_ring ok n)
 by_cases hE0:(P.get n).2=0
 ·obtain ⟨F0,f,hF,hfx,i0,i1⟩:=get_last ok hE0
  have HE:=Lib.hid (pin_eq hE0 hF)
  have hpf:=hp f (by rw [hF];simp)
  obtain ⟨Q,hQ⟩:∃ Q,(P.get n).1=Q:=⟨_,rfl⟩
  rw [hQ] at hF RL HE
  rw [hQ,hE0] at US
  have HF:=Lib.hid hF
  have hl:Q.ring.length=F0.length+1:=by rw [hF];simp
  have LS:=Lib.hid (fun w2 x2 g k (h2:QM w2 rd r q x2 Q) (hA:w2.cell? ⟨q,2,none⟩=some (.slice (some ⟨g,0,none⟩) Q.ring.length k))=>ref_last rd r q x2 Q g k F0.length w2 h2 hl (by have:=RL.out;omega) hA)
  have wp1:wrap64 ((f.pins:Int)+1)=((f.pins+1:Nat):Int):=by rw [IntWalk.wrap64_in _ (by omega)];omega
  clear h ok hd hfit hlen hp hE0 hF hfx i0 i1 hQ hl hpf
  go_enter Tryz.func76,Tryz.ntmps76
  go_wp2_with (first | (go_at_call 154;(with_reducible refine US.out.mono ?_);rintro e w2 ⟨rfl,x2,hq2,ht2,hn2⟩;obtain ⟨g,k,c2,gz,gf,hfi,d0,d1,d2,d3⟩:=hq2.lastCells HF.out;have HQ2:=Lib.hid hq2;have HT2:=Lib.hid ht2;have HN2:=Lib.hid hn2;have C2:=Lib.hid c2;have HFI:=Lib.hid hfi;clear hq2 ht2 hn2 c2 hfi) | (go_at_call 155;(with_reducible refine (LS.out _ _ _ _ HQ2.out C2.out).mono ?_);rintro e w3 ⟨rfl,hb3⟩;have HB3:=Lib.hid hb3;have f2:=((bcell hb3).1 g (F0.length*4+2) gz).trans d2;have ff:=fun i=>((bcell hb3).2 g i gz).trans (gf i);have gz3:=Nat.lt_of_lt_of_le gz hb3.size;have C3:=Lib.hid (((bcell hb3).1 q 2 HQ2.out.head.2.1).trans C2.out);clear hb3 d0 d1 d2 d3 gf))
  go_ret
  rw [HE.out,wp1]
  obtain ⟨q1,t1⟩:=(HQ2.out.below HB3.out).setHeld (A:=none) (P':={ Q with ring:=F0++[{ f with pins:=f.pins+1 }] }) C3.out HFI.out (j:=2) (f':={ f with pins:=f.pins+1 }) (u:=.int .i64 ((f.pins+1:Nat):Int)) (by omega) rfl rfl (by rw [HF.out,set_last]) rfl (fun _ _=>rfl)
  exact ⟨rfl,x2,q1,(HT2.out.trans (Turn.below _ HB3.out)).trans t1,HN2.out⟩
 ·have HE:Hid (P.pin n=P.get n):=if_neg hE0
  rw [HE.out]
  obtain ⟨Q,hQ⟩:∃ Q,(P.get n).1=Q:=⟨_,rfl⟩
  obtain ⟨E,hE⟩:∃ E,(P.get n).2=E:=⟨_,rfl⟩
  rw [hQ,hE] at US
  rw [hQ,hE]
  rw [hE] at hE0
  clear h ok hd hfit hlen hp hQ hE
  go_enter Tryz.func76,Tryz.ntmps76
  go_wp2_with (go_at_call 154;(with_reducible refine US.out.mono ?_);rintro e w2 ⟨rfl,x2,hq2,ht2,hn2⟩)
  go_ret
  exact ⟨rfl,x2,hq2,ht2,hn2⟩
set_option maxRecDepth 100000 in
set_option maxHeartbeats 6400000 in
theorem ref_put (rd r q:Nat) (x:Qx) (P:Pl) (n:Int) (s:ByteArray) (w:World) (h:QM w rd r q x P) (ok:P.ok) (hd:P.L.D.down=false) (hfit:Fit P.L.D 1) (hlen:P.L.fs.length≤90000) (hT:x.T.length≤1000000) :
 Calls Tryz.prog 156 #[.pointer (some ⟨q,0,none⟩),.int .i64 n,.string s] w (QPost2 w rd r q x 1 (P.put n s).1 (.int .i64 (P.put n s).2)):=by
 have US:=Lib.hid (ref_use rd r q x P n w h ok hd hfit hlen)
 have RL:=Lib.hid (get_ring ok n)
 have TL:=Lib.hid hT
 by_cases hE0:(P.get n).2=0
 ·obtain ⟨F0,f,hF,hfx,i0,i1⟩:=get_last ok hE0
  have HE:=Lib.hid (put_eq (s:=s) hE0 hF hfx)
  obtain ⟨Q,hQ⟩:∃ Q,(P.get n).1=Q:=⟨_,rfl⟩
  rw [hQ] at hF RL HE
  rw [hQ,hE0] at US
  have HF:=Lib.hid hF
  have hl:Q.ring.length=F0.length+1:=by rw [hF];simp
  have LS:=Lib.hid (fun w2 x2 g k (Q2:Pl) (hq:Q2.ring.length=F0.length+1) (h2:QM w2 rd r q x2 Q2) (hA:w2.cell? ⟨q,2,none⟩=some (.slice (some ⟨g,0,none⟩) Q2.ring.length k))=>ref_last rd r q x2 Q2 g k F0.length w2 h2 hq (by have:=RL.out;omega) hA)
  have HL:=Lib.hid hl
  subst hfx
  clear h ok hd hfit hlen hT hE0 hF i0 i1 hQ hl
  go_enter Tryz.func156,Tryz.ntmps156
  go_upto_region 5 with (first | (go_at_call 154;(with_reducible refine US.out.mono ?_);rintro e w2 ⟨rfl,x2,hq2,ht2,hn2⟩;obtain ⟨g,k,c2,gz,gf,hfi,d0,d1,d2,d3⟩:=hq2.lastCells HF.out;have HQ2:=Lib.hid hq2;have HT2:=Lib.hid ht2;have HN2:=Lib.hid hn2;have C2:=Lib.hid c2;have HFI:=Lib.hid hfi;clear hq2 ht2 hn2 c2 hfi) | (go_at_call 155;(with_reducible refine (LS.out _ _ _ _ _ HL.out HQ2.out C2.out).mono ?_);rintro e w3 ⟨rfl,hb3⟩;have HB3:=Lib.hid hb3;have f1:=((bcell hb3).1 g (F0.length*4+1) gz).trans d1;have ff:=fun i=>((bcell hb3).2 g i gz).trans (gf i);have gz3:=Nat.lt_of_lt_of_le gz hb3.size;have C3:=Lib.hid (((bcell hb3).1 q 2 HQ2.out.head.2.1).trans C2.out);clear hb3 d0 d1 d2 d3 gf))
  obtain ⟨q1,t1⟩:=(HQ2.out.below HB3.out).setHeld (A:=none) (P':={ Q with ring:=F0++[{ f with s:=s }] }) C3.out HFI.out (j:=1) (f':={ f with s:=s }) (u:=.string s) (by omega) rfl rfl (by rw [HF.out,set_last]) rfl (fun _ _=>rfl)
  have Q1:=Lib.hid q1
  have T1:=Lib.hid ((HT2.out.trans (Turn.below _ HB3.out)).trans t1)
  clear q1 t1 f1 ff gz3 gz C3 HQ2 HB3 C2 HT2 HFI
  generalize (w3.setCell ⟨g,F0.length*4+1,none⟩ (.string s))=W1 at *
  obtain ⟨g1,k1,c2,gz,gf,hfi,d0,d1,d2,d3⟩:=Q1.out.lastCells (F0:=F0) (f:={ f with s:=s }) rfl
  have C2:=Lib.hid c2
  have HFI:=Lib.hid hfi
  clear c2 hfi
  go_upto_region 6 with (go_at_call 155;(with_reducible refine (LS.out _ _ _ _ _ (by simp) Q1.out C2.out).mono ?_);rintro e w4 ⟨rfl,hb3⟩;have HB3:=Lib.hid hb3;have f3:=((bcell hb3).1 g1 (F0.length*4+3) gz).trans d3;have ff:=fun i=>((bcell hb3).2 g1 i gz).trans (gf i);have gz3:=Nat.lt_of_lt_of_le gz hb3.size;have C3:=Lib.hid (((bcell hb3).1 q 2 Q1.out.head.2.1).trans C2.out);clear hb3 d0 d1 d2 d3 gf)
  obtain ⟨q1,t1⟩:=(Q1.out.below HB3.out).setHeld (A:=none) (P':={ Q with ring:=F0++[{ f with s:=s,dirty:=true }] }) C3.out HFI.out (j:=3) (f':={ f with s:=s,dirty:=true }) (u:=.bool true) (by omega) rfl rfl set_last.symm rfl (fun _ _=>rfl)
  have Q3:=Lib.hid q1
  have T3:=Lib.hid ((T1.out.trans (Turn.below _ HB3.out)).trans t1)
  clear q1 t1 f3 ff gz3 gz C3 Q1 HB3 C2 T1 HFI
  generalize (w4.setCell ⟨g1,F0.length*4+3,none⟩ (.bool true))=W3 at *
  obtain ⟨A4,k4,v4,_,hown4,_⟩:=Q3.out.list
  have V4:=Lib.hid v4
  have HOWN:=Lib.hid hown4
  have vz:=Q3.out.head.2.1
  have vf:=Q3.out.head.2.2
  obtain ⟨i1,hi1,hz3,hz4,hz5⟩:=info_parts infoInt
  have tl:x2.T.length≤1000000:=by have:=HN2.out;have:=TL.out;omega
  have G1:=Lib.hid (show x2.T.length+1≤maxLen by unfold maxLen;omega)
  have G2:=Lib.hid (show (x2.T.length+1)*8≤140737488355328 by omega)
  clear hown4 tl
  go_wp2_with (at_builtin;(go_loud (refine wpList_append_src _ rfl (.tmp 27) (.tmp 29) 43 43 rfl 0 3 i1 _ 1 8 Tryz.underlying43 hi1 hz3 hz4 hz5 zeroCellsInt (by decide) (.slice A4 x2.T.length k4) x2.T.length (natVs x2.T) rfl (HOWN.out.alloc _) (.slice (some ⟨_,0,none⟩) 1 1) 1 [.int .i64 f.n] rfl (Src.ofSlice _ Tryz.underlying43 ⟨_,0,none⟩ 1 1 [.int .i64 f.n] rfl (World.news_of_block (heap_alloc_new _ _)) (by simp [Value.oneCell'])) G1.out G2.out (Nat.zero_le _) ?_));intro v7 w7 hown7 hg7 _ hat7;obtain ⟨A7,k7,rfl,_⟩:=own_form hown7;have AR:=Lib.hid (Q3.out.appList (P':={ Q with ring:=F0++[{ f with s:=s,dirty:=true }],turned:=insN f.n Q.turned }) V4.out ((Below.refl _ _).alloc (Nat.le_refl _) _) hown7 hg7 hat7 rfl rfl rfl (fun _ _=>rfl));have g2:=AR.out.1.1;have gz:=AR.out.1.2.1;have gf:=AR.out.1.2.2;clear hown7 hg7 hat7)
  go_ret
  rw [HE.out]
  obtain ⟨k',q1,q2⟩:=AR.out.2
  exact ⟨rfl,_,q1,T3.out.trans q2,by have:=HN2.out;simp;omega⟩
 ·have HE:Hid (P.put n s=P.get n):=if_neg hE0
  rw [HE.out]
  obtain ⟨Q,hQ⟩:∃ Q,(P.get n).1=Q:=⟨_,rfl⟩
  obtain ⟨E,hE⟩:∃ E,(P.get n).2=E:=⟨_,rfl⟩
  rw [hQ,hE] at US
  rw [hQ,hE]
  rw [hE] at hE0
  clear h ok hd hfit hlen hT hQ hE
  go_enter Tryz.func156,Tryz.ntmps156
  go_wp2_with (go_at_call 154;(with_reducible refine US.out.mono ?_);rintro e w2 ⟨rfl,x2,hq2,ht2,hn2⟩)
  go_ret
  exact ⟨rfl,x2,hq2,ht2,by omega⟩
set_option maxRecDepth 100000 in
set_option maxHeartbeats 1600000 in
theorem ref_PWrite (rd r q:Nat) (x:Qx) (P:Pl) (n:Int) (s:ByteArray) (w:World) (h:QM w rd r q x P) (ok:P.ok) (hd:P.L.D.down=false) (hfit:Fit P.L.D 1) (hlen:P.L.fs.length≤90000) (hT:x.T.length≤1000000) :
 Calls Tryz.prog 74 #[.pointer (some ⟨q,0,none⟩),.int .i64 n,.string s] w (QPost2 w rd r q x 1 (P.write n s).1 (.int .i64 (P.write n s).2)):=by
 have PT:=Lib.hid (ref_put rd r q x P n s w h ok hd hfit hlen hT)
 have HP:=Lib.hid h
 by_cases hx0:n=0
 ·have HE:Hid (P.write n s=(P,1)):=if_pos (.inl hx0)
  rw [HE.out]
  subst hx0
  clear h ok hfit hd hlen hT
  go_enter Tryz.func74,Tryz.ntmps74
  go_wp2_with fail
  go_ret
  exact QPost2.refl HP.out 1
 ·have e0:(n == 0)=false:=beq_eq_false_iff_ne.2 hx0
  by_cases hs:s.size=1024
  ·have HE:Hid (P.write n s=P.put n s):=if_neg (fun h=>h.elim hx0 fun h2=>h2 hs)
   rw [HE.out]
   obtain ⟨Q,hQ⟩:∃ Q,P.put n s=Q:=⟨_,rfl⟩
   rw [hQ] at PT ⊢
   have z:(s.size:Int)=1024:=by omega
   clear h ok hfit hd hlen hT hx0 hQ hs
   go_enter Tryz.func74,Tryz.ntmps74
   go_wp2_with (go_at_call 156;(with_reducible refine PT.out.mono ?_);rintro e w2 ⟨rfl,x2,hq2,ht2,hn2⟩)
   go_ret
   exact ⟨rfl,x2,hq2,ht2,hn2⟩
  ·have HE:Hid (P.write n s=(P,1)):=if_pos (.inr hs)
   rw [HE.out]
   have z:((s.size:Int) == 1024)=false:=by rw [beq_eq_false_iff_ne];omega
   have z2:((s.size:Int) != 1024)=true:=by rw [bne_iff_ne];omega
   clear h ok hfit hd hlen hT hx0 hs
   go_enter Tryz.func74,Tryz.ntmps74
   go_wp2_with fail
   go_ret
   exact QPost2.refl HP.out 1
end Go.Proofs.YtjihboddejaelaaGreat
namespace Go.Proofs.YtjihboddejaelaaGreat
open Go.RowKit
open Go.BigFrame
set_option maxHeartbeats 1600000 in
theorem ref_Sum (s:ByteArray) (w:World) (hs:s.size≤9223372036854775807) :
 Calls Tryz.prog 150 #[.string s] w fun e w'=>e = .returned (.int .u32 (crcN s.data.toList:Nat))∧w=w':=by
 go_enter Tryz.func150,Tryz.ntmps150
 go_wp2_with fail
 go_loop [3,4] (fun v3 v4=>∃ i c:Nat,i≤s.size∧c<4294967296∧v3 = .int .u32 c∧v4 = .int .i64 i∧c=crcGo 4294967295 (s.data.toList.take i)) (fun _ v4=>s.size-(intOf v4).toNat)
 case atStart=>exact ⟨0,4294967295,Nat.zero_le _,by omega,rfl,rfl,rfl⟩
 case round =>
  obtain ⟨i,c,hi,hc,rfl,rfl,hx⟩:=hrel
  have HX:=Lib.hid hx;clear hx
  by_cases h1:i<s.size
  ·have x1:=xor_byte hc (byte_lt s[i])
   have hx2:c ^^^ s[i].toNat<4294967296:=xor_lt32 hc (byte_lt s[i])
   obtain ⟨d,hd⟩:∃ d,c ^^^ s[i].toNat=d:=⟨_,rfl⟩
   rw [hd] at x1 hx2
   have HD:=Lib.hid hd;clear hd
   obtain ⟨wo,rfl⟩:∃ wo:World,wo=w:=⟨_,rfl⟩
   go_wp2_with fail
   go_loop [3,5] (fun v3 v17=>∃ k e:Nat,k≤8∧e<4294967296∧v3 = .int .u32 e∧v17 = .int .i64 k∧e=crcBits k d) (fun _ v17=>8-(intOf v17).toNat)
   case atStart=>exact ⟨0,d,by omega,hx2,rfl,rfl,rfl⟩
   case round =>
    obtain ⟨k,e,hk,he,rfl,rfl,hy⟩:=hrel
    have HY:=Lib.hid hy;clear hy
    by_cases hk8:k<8
    ·by_cases ho:e % 2=1
     ·have a1:((e:Int) % 2 == 1)=true:=by rw [beq_iff_eq];omega
      have a2:=crc_odd he ho
      clear ho
      go_wp2_with fail
      go_round
      case rel=>exact ⟨k+1,_,by omega,crcBit_lt he,rfl,by simp,by rw [HY.out,crcBits_succ]⟩
      case measure=>simp [intOf];omega
     ·have a1:((e:Int) % 2 == 1)=false:=by rw [beq_eq_false_iff_ne];omega
      have HO:=Lib.hid ho;clear ho
      go_wp2_with fail
      go_round
      case rel=>exact ⟨k+1,_,by omega,crcBit_lt he,by rw [crc_even HO.out],by simp,by rw [HY.out,crcBits_succ]⟩
      case measure=>simp [intOf];omega
    ·have ST:=Lib.hid (crc_step h1 HX.out HD.out HY.out (by omega))
     go_wp2_with fail
     go_round
     case rel=>exact ⟨i+1,e,by omega,he,rfl,by simp,ST.out⟩
     case measure=>simp [intOf];omega
  ·obtain rfl:i=s.size:=by omega
   have T:crcGo 4294967295 (s.data.toList.take s.size)=crcGo 4294967295 s.data.toList:=by rw [List.take_of_length_le (by simp)]
   have E:=Lib.hid (show 4294967295-(c:Int)=((crcN s.data.toList:Nat):Int) by rw [HX.out,T];unfold crcN;have:=crcGo_lt s.data.toList (c:=4294967295) (by omega);omega)
   clear T
   go_wp2_with fail
   go_ret
   exact ⟨ret_int (by first | exact E.out | (rw [← E.out];have:=hc;rw [IntKind.wrap_u32'];omega)),rfl⟩
end Go.Proofs.YtjihboddejaelaaGreat
