/-
  Package tree: settleRoot where the root is split.
-/
import Derived.Test.YtjihboddejaelaaGreatTs1
import Derived.Test.YtjihboddejaelaaGreatTs14
import Derived.Deep.RegionHeld3
import Derived.Deep.LoopGhost
import Derived.Test.YtjihboddejaelaaGreatTs2
set_option linter.unusedVariables false
set_option linter.unusedSimpArgs false
set_option maxRecDepth 100000
set_option maxHeartbeats 100000000
namespace Go.Proofs.YtjihboddejaelaaGreat
open Go.RowKit Go.BigFrame
structure EM0 (S:St):Prop where
 pos:0<S.q
 few:S.q≤65536
 rng:∀ x∈S.fr,0<x∧x<S.q
 nd:S.fr.Nodup
 chain:DH0 S.G S.fr
 root:S.G 0=(4,S.fr.headD 0,[])
 pg:∀ n,n<S.q→Qq (S.G n)
theorem PT.ok {w:World} {X:List (Option Nat)} {p c k:Nat} {S S0:St} (h:PT w X p S S0 c k):EM0 S:=by
 obtain ⟨b,gd,g,m1,m2,e,h,t,A,P,B,N,f0,_,_,_,i,_⟩:=h
 exact ⟨i.pos,i.few,i.rng,i.nd,i.chain,i.root,fun n hn=>(i.pg n hn).1⟩
section
variable {S:St}
theorem EM0.Ah (h:EM0 S):0<S.Ah∧S.Ah<S.alloc.q∧S.Ah∉S.alloc.fr∧S.q≤S.alloc.q∧S.alloc.q≤S.q+1:=by
 unfold St.Ah St.alloc
 cases hf:S.fr with
 | nil=>exact ⟨h.pos,Nat.lt_succ_self _,by simp,Nat.le_succ _,Nat.le_refl _⟩
 | cons x r =>
   have:=h.rng x (by rw [hf];exact List.mem_cons_self)
   have nd:=h.nd;rw [hf] at nd;exact ⟨this.1,this.2,(List.nodup_cons.1 nd).1,Nat.le_refl _,Nat.le_succ _⟩
theorem EM0.other (h:EM0 S) {x:Nat} (hx:x<S.q) (hf:x∉S.fr):x≠S.Ah∧x<S.alloc.q∧x∉S.alloc.fr:=by
 unfold St.Ah St.alloc
 cases hfr:S.fr with
 | nil=>exact ⟨by show x≠S.q;omega,by show x<S.q+1;omega,by simp⟩
 | cons y r =>
   rw [hfr] at hf
   exact ⟨fun e=>hf (by rw [show x=y from e];exact List.mem_cons_self),hx,fun hm=>hf (List.mem_cons_of_mem _ hm)⟩
theorem EM0.BT0 (h:EM0 S) {x:Nat} (h0:x≠0) (hx:x≠S.Ah):S.alloc.G x=S.G x:=by
 unfold St.Ah at hx;unfold St.alloc
 cases hfr:S.fr with
 | nil =>
   rw [hfr] at hx;exact Aq hx
 | cons y r =>
   rw [hfr] at hx;exact (Aq hx).trans (Aq h0)
end
def Vy (W:World) (n kd l l2:Nat) (K:ByteArray) (cl cr:List ByteArray) (e:Ending) (w':World):Prop :=
 ∃ va vb,e = .returned (.tuple #[.agg #[.int .i64 n,.int .i64 kd,.int .i64 l,va],.string K,.agg #[.int .i64 n,.int .i64 kd,.int .i64 l2,vb]]) ∧
   w'.ownsRow W.heap.size 9 1 va cl.length (strs cl)∧w'.ownsRow W.heap.size 9 1 vb cr.length (strs cr)∧(∀ g,va.ownBlock=some g→vb.ownBlock≠some g)∧Below W.heap.size W w'
structure Loc (W:World) (X:List (Option Nat)) (b0 b1 b2:Nat) (c0 c1 c2:Array Value) (va vb:Value) (cl cr:List ByteArray):Prop where
 z0:Has W b0 116 c0
 z1:Has W b1 116 c1
 z2:Has W b2 116 c2
 n0:some b0∉X
 n1:some b1∉X
 n2:some b2∉X
 d1:b0<b1
 d2:b1<b2
 oa:W.ownsRow 0 9 1 va cl.length (strs cl)
 ob:W.ownsRow 0 9 1 vb cr.length (strs cr)
 xa:∀ g,va.ownBlock=some g→some g∉X∧g≠b0∧g≠b1∧g≠b2
 xb:∀ g,vb.ownBlock=some g→some g∉X∧g≠b0∧g≠b1∧g≠b2
section
variable {W W':World} {X X':List (Option Nat)} {b0 b1 b2:Nat} {c0 c1 c2:Array Value} {va vb:Value} {cl cr:List ByteArray}
theorem Loc.turn (h:Loc W X b0 b1 b2 c0 c1 c2 va vb cl cr) (ht:Turn X X' W W'):Loc W' X' b0 b1 b2 c0 c1 c2 va vb cl cr :=
 ⟨ht.has h.z0 h.n0,ht.has h.z1 h.n1,ht.has h.z2 h.n2,ht.out h.n0 h.z0.lt,ht.out h.n1 h.z1.lt,ht.out h.n2 h.z2.lt,h.d1,h.d2,
   Bf h.oa fun g hg=>ht.block g (h.oa.lt g hg).2 (h.xa g hg).1,Bf h.ob fun g hg=>ht.block g (h.ob.lt g hg).2 (h.xb g hg).1,
   fun g hg=>⟨ht.out (h.xa g hg).1 (h.oa.lt g hg).2,(h.xa g hg).2⟩,fun g hg=>⟨ht.out (h.xb g hg).1 (h.ob.lt g hg).2,(h.xb g hg).2⟩⟩
theorem Loc.below (h:Loc W X b0 b1 b2 c0 c1 c2 va vb cl cr) (hb:Below W.heap.size W W'):Loc W' X b0 b1 b2 c0 c1 c2 va vb cl cr:=h.turn (Turn.below X hb)
theorem Loc.set0 (h:Loc W X b0 b1 b2 c0 c1 c2 va vb cl cr) (i:Nat) (u:Value):Loc (W.setCell ⟨b0,i,none⟩ u) X b0 b1 b2 (c0.setIfInBounds i u) c1 c2 va vb cl cr :=
 ⟨h.z0.set i u,h.z1.far (p:=⟨b0,i,none⟩) (by have:=h.d1;show b1≠b0;omega) u,h.z2.far (p:=⟨b0,i,none⟩) (by have:=h.d1;have:=h.d2;show b2≠b0;omega) u,h.n0,h.n1,h.n2,h.d1,h.d2,
   Bf h.oa fun g hg=>Below.heap_setCell _ _ _ _ (h.xa g hg).2.1,Bf h.ob fun g hg=>Below.heap_setCell _ _ _ _ (h.xb g hg).2.1,h.xa,h.xb⟩
theorem Loc.set1 (h:Loc W X b0 b1 b2 c0 c1 c2 va vb cl cr) (i:Nat) (u:Value):Loc (W.setCell ⟨b1,i,none⟩ u) X b0 b1 b2 c0 (c1.setIfInBounds i u) c2 va vb cl cr :=
 ⟨h.z0.far (p:=⟨b1,i,none⟩) (by have:=h.d1;show b0≠b1;omega) u,h.z1.set i u,h.z2.far (p:=⟨b1,i,none⟩) (by have:=h.d2;show b2≠b1;omega) u,h.n0,h.n1,h.n2,h.d1,h.d2,
   Bf h.oa fun g hg=>Below.heap_setCell _ _ _ _ (h.xa g hg).2.2.1,Bf h.ob fun g hg=>Below.heap_setCell _ _ _ _ (h.xb g hg).2.2.1,h.xa,h.xb⟩
theorem Loc.set2 (h:Loc W X b0 b1 b2 c0 c1 c2 va vb cl cr) (i:Nat) (u:Value):Loc (W.setCell ⟨b2,i,none⟩ u) X b0 b1 b2 c0 c1 (c2.setIfInBounds i u) va vb cl cr :=
 ⟨h.z0.far (p:=⟨b2,i,none⟩) (by have:=h.d1;have:=h.d2;show b0≠b2;omega) u,h.z1.far (p:=⟨b2,i,none⟩) (by have:=h.d2;show b1≠b2;omega) u,h.z2.set i u,h.n0,h.n1,h.n2,h.d1,h.d2,
   Bf h.oa fun g hg=>Below.heap_setCell _ _ _ _ (h.xa g hg).2.2.2,Bf h.ob fun g hg=>Below.heap_setCell _ _ _ _ (h.xb g hg).2.2.2,h.xa,h.xb⟩
end
theorem AR0 {w:World} {X:List (Option Nat)} {tb p root c k n l l2 m cp:Nat} {S S0:St} {A:Option Addr} {cs:List It} {key:Ky} {cl cr:List ByteArray} (h:PT w X p S S0 c k) (ht:TM w X tb p root) (hc:c+10≤60000) (hk:k≤800000000) (hq:S.q≤59000) (h0:0<n) (hn:n<S.q) (hf:n∉S.fr)
 (hs:SS w A m (cs.map Af)) (hm:m≤1000) (hu:1012<Ai cs) (hu2:Ai cs≤100000) (hkey:key.length≤200) (hcl:cl.length≤1000) (hcr:cr.length≤1000)
 (SPL:∀ W,Below w.heap.size w W→Calls Tryz.prog 143 #[.pointer (some ⟨tb,0,none⟩),.agg #[.int .i64 n,.int .i64 1,.int .i64 l,.slice A m cp]] W (Vy W n 1 l l2 (bsK key) cl cr))
 (hl:l≤2147483647) (hl2:l2≤2147483647) (h1:Be cl≤1012) (h2:Be cr≤1012) :
 Calls Tryz.prog 142 #[.pointer (some ⟨tb,0,none⟩),.agg #[.int .i64 n,.int .i64 1,.int .i64 l,.slice A m cp]] w
  (Hw X w p ((((S.alloc.alloc).set S.Ah (1,S.alloc.Ah,cl)).set S.alloc.Ah (1,l2,cr)).set n (2,S.Ah,[Af ⟨key,Ak S.alloc.Ah⟩])) S0 (c+7) (k+11) (.tuple #[])):=by
 have hok:=h.ok;have HP:=Ac h;have HT:=Ac ht;have HCK:=Ac (And.intro hc (And.intro hk hq))
 have A1:=Ac (fun W (h:PT W X p S S0 c k) (ht:TM W X tb p root)=>Nq h ht (by omega) (by omega) (by omega))
 have hq1:=hok.Ah
 have A2:=Ac (fun W X (h:PT W X p S.alloc S0 (c+2) (k+4)) (ht:TM W X tb p root)=>Nq h ht (by omega) (by omega) (by omega))
 have US:=Ac (fun W (h:SS W A m (cs.map Af))=>Gh A m cp (cs.map Af) W h (by omega) (by rw [Ee];omega))
 rw [Ee] at US;have B0:=Ac (Ag w (.cells #[.int .i64 n,.int .i64 1,.int .i64 l,.slice A m cp] 116));have HSS:=Ac hs;have R0:=Ac (Has.new w 116 #[.int .i64 n,.int .i64 1,.int .i64 l,.slice A m cp]);obtain ⟨us,hus⟩:∃ us,Ai cs=us:=⟨_,rfl⟩;rw [hus] at US hu
 have u1:(1012:Int)<(us:Int):=by omega
 have SP:=Ac SPL;obtain ⟨K,hK⟩:∃ K,bsK key=K:=⟨_,rfl⟩;rw [hK] at SP;have HKY:=Ac hK;have ltx:=Ac h.lt
 have NR:Hid (some w.heap.size∉X):=Ac (fun hm=>by have:=h.lt _ hm;omega)
 have HN:=Ac (And.intro h0 (And.intro hn hf));have HSZ:=Ac (And.intro hl (And.intro hl2 (And.intro h1 h2)));have HOK:=Ac hok;have HCL:=Ac (And.intro hcl hcr);have HTZ:=Ac ht.has.lt;have HKL:=Ac hkey;clear h ht hs hm hus SPL hu2 hu hc hk hq h0 hn hf hl hl2 h1 h2 hok hq1 hK hcl hcr hkey
 go_enter Tryz.func142,Tryz.ntmps142
 go_wp2_with (first
  | (go_at_call 141;refine (US.out _ (HSS.out.keep B0.out)).mono ?_;rintro e w1 ⟨rfl,rfl⟩)
  | (go_at_call 143;refine (SP.out _ B0.out).mono ?_;rintro en w1 ⟨va,vb,rfl,hoa,hob,hab,hb1⟩;obtain ⟨Aa,ca,rfl,_⟩:=Bd hoa;obtain ⟨Ab,cb,rfl,_⟩:=Bd hob;have OA:=Ac hoa;have OB:=Ac hob;have AB:=Ac hab;have HB1:=Ac hb1;clear hoa hob hab hb1))
 have LC:Loc ((w1.alloc (.cells #[.int .i64 n,.int .i64 1,.int .i64 l,.slice Aa cl.length ca] 116)).alloc (.cells #[.int .i64 n,.int .i64 1,.int .i64 l2,.slice Ab cr.length cb] 116)) X w.heap.size w1.heap.size (w1.heap.size+1) #[.int .i64 n,.int .i64 1,.int .i64 l,.slice A m cp] #[.int .i64 n,.int .i64 1,.int .i64 l,.slice Aa cl.length ca] #[.int .i64 n,.int .i64 1,.int .i64 l2,.slice Ab cr.length cb] (.slice Aa cl.length ca) (.slice Ab cr.length cb) cl cr:=by
  have e1:w.heap.size<w1.heap.size:=by have:=HB1.out.size;simp at this;omega
  have q2:=Has.new (w1.alloc (.cells #[.int .i64 n,.int .i64 1,.int .i64 l,.slice Aa cl.length ca] 116)) 116 #[.int .i64 n,.int .i64 1,.int .i64 l2,.slice Ab cr.length cb];rw [World.size_alloc] at q2;have low:∀ i,some i∈X→i<w.heap.size:=ltx.out
  refine ⟨((R0.out.Aj HB1.out).alloc _).alloc _,(Has.new _ _ _).alloc _,q2,NR.out,fun hm=>by have:=low _ hm;omega,fun hm=>by have:=low _ hm;omega,e1,Nat.lt_succ_self _,own_base ((OA.out.alloc _).alloc _) (Nat.zero_le _),own_base ((OB.out.alloc _).alloc _) (Nat.zero_le _),fun g hg=>?_,fun g hg=>?_⟩
  ·have:=OA.out.lt g hg
   simp at this
   exact ⟨fun hm=>by have:=low _ hm;omega,by omega,by omega,by omega⟩
  ·have:=OB.out.lt g hg
   simp at this
   exact ⟨fun hm=>by have:=low _ hm;omega,by omega,by omega,by omega⟩
 have BB:=((Below.refl w1.heap.size w1).alloc (Nat.le_refl _) (.cells #[.int .i64 n,.int .i64 1,.int .i64 l,.slice Aa cl.length ca] 116)).alloc (by simp) (.cells #[.int .i64 n,.int .i64 1,.int .i64 l2,.slice Ab cr.length cb] 116)
 have P2:=Ac (((HP.out.below B0.out).below HB1.out).below BB);have M2:=Ac (((HT.out.below B0.out).below HB1.out).below BB);have U2:=Ac (((Turn.below X B0.out).next HB1.out).next BB)
 have XZ:Hid (w.heap.size≤w1.heap.size):=Ac (by have:=HB1.out.size;simp at this;omega)
 have L2:=Ac LC;clear LC BB
 generalize ((w1.alloc (.cells #[.int .i64 n,.int .i64 1,.int .i64 l,.slice Aa cl.length ca] 116)).alloc (.cells #[.int .i64 n,.int .i64 1,.int .i64 l2,.slice Ab cr.length cb] 116))=W2 at *
 generalize w1.heap.size=b1 at *
 have D01:=L2.out.d1;clear HSS US R0 OA OB AB HB1 SP B0 HP HT
 refine (A1.out W2 P2.out M2.out).mono ?_
 rintro en w3 ⟨rfl,X3,hp3,ht3⟩;have P3:=Ac hp3;have M3:=Ac (M2.out.turn ht3);have L3:=Ac (L2.out.turn ht3);have U3:=Ac (U2.out.trans ht3);clear hp3 ht3 P2 M2 L2 U2 A1
 go_wp2_with fail
 refine (A2.out w3 X3 P3.out M3.out).mono ?_
 rintro en w4 ⟨rfl,X4,hp4,ht4⟩;have P4:=Ac hp4;have M4:=Ac (M3.out.turn ht4);have L4:=Ac (L3.out.turn ht4);have U4:=Ac (U3.out.trans ht4);have OK1:=Ac P3.out.ok;have OK2:=Ac hp4.ok;clear hp4 ht4 P3 M3 L3 U3 A2;obtain ⟨a0,a1,a2,a3⟩:=L4.out.z1.cells4;obtain ⟨d0,d1,d2,d3⟩:=L4.out.z2.cells4;have f1:=L4.out.z1.frozen;have f2:=L4.out.z2.frozen;have y1:=L4.out.z1.lt;have y2:=L4.out.z2.lt
 go_wp2_with fail
 have hm1:=(HOK.out).Ah;have hm2:=(OK1.out).Ah;have hm3:=(OK1.out).other hm1.2.1 hm1.2.2.1;have hn1:=(HOK.out).other HN.out.2.1 HN.out.2.2;have hn2:=(OK1.out).other hn1.2.1 hn1.2.2
 have F1:=Ac (show 0<S.Ah∧S.Ah<S.alloc.alloc.q∧S.Ah∉S.alloc.alloc.fr∧0<S.alloc.Ah∧S.alloc.Ah<S.alloc.alloc.q∧S.alloc.Ah∉S.alloc.alloc.fr∧0<n∧n<S.alloc.alloc.q∧n∉S.alloc.alloc.fr∧S.alloc.alloc.q≤65536 from ⟨hm1.1,hm3.2.1,hm3.2.2,hm2.1,hm2.2.1,hm2.2.2.1,HN.out.1,hn2.2.1,hn2.2.2,OK2.out.few⟩)
 clear hm1 hm2 hm3 hn1 hn2 OK1 OK2 HN HOK
 generalize S.Ah=m1 at *
 generalize S.alloc.Ah=m2 at *
 generalize S.alloc.alloc=S2 at *
 have L5:Loc ((w4.setCell ⟨b1,0,none⟩ (.int .i64 m1)).setCell ⟨b1+1,0,none⟩ (.int .i64 m2)) X4 w.heap.size b1 (b1+1) #[.int .i64 n,.int .i64 1,.int .i64 l,.slice A m cp] #[.int .i64 m1,.int .i64 1,.int .i64 l,.slice Aa cl.length ca] #[.int .i64 m2,.int .i64 1,.int .i64 l2,.slice Ab cr.length cb] (.slice Aa cl.length ca) (.slice Ab cr.length cb) cl cr:=(L4.out.set1 0 (.int .i64 m1)).set2 0 (.int .i64 m2)
 have P5:=Ac ((P4.out.set L4.out.n1 0 (.int .i64 m1)).set L4.out.n2 0 (.int .i64 m2))
 have TB1:tb≠b1:=by have:=XZ.out;have:=HTZ.out;omega
 have TB2:tb≠b1+1:=by have:=XZ.out;have:=HTZ.out;omega
 have M5:=Ac ((M4.out.set TB1 0 (.int .i64 m1)).set TB2 0 (.int .i64 m2));have U5:=Ac ((U4.out.Di XZ.out 0 (.int .i64 m1)).Di (Nat.le_succ_of_le XZ.out) 0 (.int .i64 m2))
 generalize ((w4.setCell ⟨b1,0,none⟩ (.int .i64 m1)).setCell ⟨b1+1,0,none⟩ (.int .i64 m2))=W5 at *
 clear P4 M4 L4 U4 a0 a1 a2 a3 d0 d1 d2 d3 f1 f2 y1 y2
 refine (Ko m1 l (.slice Aa cl.length ca) W5).mono ?_
 rintro en w6 ⟨rfl,hb6⟩;have L6:=Ac (L5.below hb6);have P6:=Ac (P5.out.below hb6);have M6:=Ac (M5.out.below hb6);have U6:=Ac (U5.out.next hb6);clear hb6 L5 P5 M5 U5;obtain ⟨a0,a1,a2,a3⟩:=L6.out.z1.cells4;obtain ⟨d0,d1,d2,d3⟩:=L6.out.z2.cells4;have f1:=L6.out.z1.frozen;have y1:=L6.out.z1.lt;have y2:=L6.out.z2.lt
 go_wp2_with fail
 have PG1:Qq (1,m2,cl):=⟨by show 1≤1;omega,by show 1≤5;omega,by have h1:=F1.out;have h2:=HSZ.out.1;show m2≤2147483647;omega,HSZ.out.2.2.1⟩
 have PG2:Qq (1,l2,cr):=⟨by show 1≤1;omega,by show 1≤5;omega,HSZ.out.2.1,HSZ.out.2.2.2⟩
 have SV1:=Ac (fun W X (h:PT W X p S2 S0 (c+2+2) (k+4+4)) (ht:TM W X tb p root) (hs:SS W Aa cl.length cl)=>Dp (n:=m1) (cp:=ca) (pg:=(1,m2,cl)) h ht (by have:=HCK.out;omega) (by have:=HCK.out;omega) F1.out.1 F1.out.2.1 F1.out.2.2.1 PG1 hs (by have:=HCL.out;omega))
 have SV2:=Ac (fun W X (h:PT W X p (S2.set m1 (1,m2,cl)) S0 (c+2+2+1) (k+4+4+1)) (ht:TM W X tb p root) (hs:SS W Ab cr.length cr)=>Dp (n:=m2) (cp:=cb) (pg:=(1,l2,cr)) h ht (by have:=HCK.out;omega) (by have:=HCK.out;omega) F1.out.2.2.2.1 F1.out.2.2.2.2.1 F1.out.2.2.2.2.2.1 PG2 hs (by have:=HCL.out;omega))
 clear PG1 PG2 f1 y1 y2;have L7:Loc (w6.setCell ⟨b1,2,none⟩ (.int .i64 m2)) X4 w.heap.size b1 (b1+1) #[.int .i64 n,.int .i64 1,.int .i64 l,.slice A m cp] #[.int .i64 m1,.int .i64 1,.int .i64 m2,.slice Aa cl.length ca] #[.int .i64 m2,.int .i64 1,.int .i64 l2,.slice Ab cr.length cb] (.slice Aa cl.length ca) (.slice Ab cr.length cb) cl cr:=L6.out.set1 2 (.int .i64 m2);have P7:=P6.out.set L6.out.n1 2 (.int .i64 m2)
 have M7:=M6.out.set TB1 2 (.int .i64 m2);have U7:=U6.out.Di XZ.out 2 (.int .i64 m2);clear L6 P6 M6 U6 a0 a1 a2 a3 d0 d1 d2 d3
 refine (SV1.out _ X4 P7 M7 (SS.Dv L7.oa)).mono ?_
 rintro en w8 ⟨rfl,X8,hp8,ht8⟩;have L8:=Ac (L7.turn ht8);have P8:=Ac hp8;have M8:=Ac (M7.turn ht8);have U8:=Ac (U7.trans ht8);clear hp8 ht8 L7 P7 M7 U7 SV1;obtain ⟨d0,d1,d2,d3⟩:=L8.out.z2.cells4
 go_wp2_with fail
 refine (SV2.out _ X8 P8.out M8.out (SS.Dv L8.out.ob)).mono ?_
 rintro en w9 ⟨rfl,X9,hp9,ht9⟩;have L9:=Ac (L8.out.turn ht9);have P9:=Ac hp9;have M9:=Ac (M8.out.turn ht9);have U9:=Ac (U8.out.trans ht9);clear hp9 ht9 L8 P8 M8 U8 SV2 d0 d1 d2 d3
 go_wp2_with fail
 have FO:=Ac (fun W=>Jh m2 (by have:=F1.out;omega) W)
 have CE:=Ac (fun W=>Ih ⟨key,Ak m2⟩ HKL.out (by simp [Ak]) W)
 have CEK:bsK (⟨key,Ak m2⟩:It).k=K:=HKY.out;rw [CEK] at CE
 have SV3:=Ac (fun W X A c1 (h:PT W X p ((S2.set m1 (1,m2,cl)).set m2 (1,l2,cr)) S0 (c+2+2+1+1) (k+4+4+1+1)) (ht:TM W X tb p root) (hs:SS W A 1 [Af ⟨key,Ak m2⟩])=>Dp (n:=n) (cp:=c1) (pg:=(2,m1,[Af ⟨key,Ak m2⟩])) h ht (by have:=HCK.out;omega) (by have:=HCK.out;omega) F1.out.2.2.2.2.2.2.1 F1.out.2.2.2.2.2.2.2.1 F1.out.2.2.2.2.2.2.2.2.1 ⟨by show 1≤2;omega,by show 2≤5;omega,by have:=F1.out;show m1≤2147483647;omega,by
  show Be [Af ⟨key,Ak m2⟩]≤1012
  unfold Be;simp only [List.map_cons,List.map_nil,List.sum_cons,List.sum_nil,Ef,fourL_len];have:=HKL.out
  omega⟩ hs (by omega))
 obtain ⟨F,hF⟩:∃ F,bsK (Ak m2)=F:=⟨_,rfl⟩;obtain ⟨CB,hCB⟩:∃ CB,Af ⟨key,Ak m2⟩=CB:=⟨_,rfl⟩;have hF2:bsK (⟨key,Ak m2⟩:It).r=F:=hF;rw [hF2,hCB] at CE;rw [hF] at FO;rw [hCB] at SV3;have HCB:=Ac hCB;clear hF hF2 hCB CEK;have a0:=L9.out.z1.cell 0;have d0:=L9.out.z2.cell 0
 go_region_held3 (fun w'=>w'.cell? ⟨b1,0,none⟩=some (.int .i64 m1)∧w'.cell? ⟨b1+1,0,none⟩=some (.int .i64 m2)) (first | (with_reducible exact k12.out) | (with_reducible exact k11.out) | (with_reducible exact k10.out) | go_keep)
  (first
    | (go_at_call 134;refine (FO.out _).mono ?_;rintro en w10 ⟨rfl,hb10⟩;have L10:=Ac ((L9.out.below ((Below.refl _ _).drew)).below hb10);have P10:=Ac ((Zp P9.out).below hb10);have M10:=Ac ((M9.out.below ((Below.refl _ _).drew)).below hb10);have U10:=Ac ((U9.out.next ((Below.refl _ _).drew)).next hb10);have k10:=Ac (show w10.cell? ⟨b1,0,none⟩=some (.int .i64 m1)∧w10.cell? ⟨b1+1,0,none⟩=some (.int .i64 m2) from ⟨L10.out.z1.cell 0,L10.out.z2.cell 0⟩);clear hb10)
    | (go_at_call 133;refine (CE.out _).mono ?_;rintro en w11 ⟨rfl,hb11⟩;have L11:=Ac (L10.out.below hb11);have P11:=Ac (P10.out.below hb11);have M11:=Ac (M10.out.below hb11);have U11:=Ac (U10.out.next hb11);obtain ⟨z0,z1,z2,z3⟩:=L11.out.z0.cells4;have zf:=L11.out.z0.frozen;have zz:=L11.out.z0.lt;have L12:Hid (Loc ((((w11.setCell ⟨w.heap.size,1,none⟩ (.int .i64 2)).setCell ⟨w.heap.size,2,none⟩ (.int .i64 m1)).setCell ⟨w.heap.size,3,none⟩ (.slice (some ⟨w11.heap.size,0,none⟩) 1 1)).alloc (.cells #[.string CB] 9)) X9 w.heap.size b1 (b1+1) #[.int .i64 n,.int .i64 2,.int .i64 m1,.slice (some ⟨w11.heap.size,0,none⟩) 1 1] #[.int .i64 m1,.int .i64 1,.int .i64 m2,.slice Aa cl.length ca] #[.int .i64 m2,.int .i64 1,.int .i64 l2,.slice Ab cr.length cb] (.slice Aa cl.length ca) (.slice Ab cr.length cb) cl cr):=Ac ((((L11.out.set0 1 (.int .i64 2)).set0 2 (.int .i64 m1)).set0 3 (.slice (some ⟨w11.heap.size,0,none⟩) 1 1)).below (Ag _ _));have k12:=Ac (show ((((w11.setCell ⟨w.heap.size,1,none⟩ (.int .i64 2)).setCell ⟨w.heap.size,2,none⟩ (.int .i64 m1)).setCell ⟨w.heap.size,3,none⟩ (.slice (some ⟨w11.heap.size,0,none⟩) 1 1)).alloc (.cells #[.string CB] 9)).cell? ⟨b1,0,none⟩=some (.int .i64 m1)∧((((w11.setCell ⟨w.heap.size,1,none⟩ (.int .i64 2)).setCell ⟨w.heap.size,2,none⟩ (.int .i64 m1)).setCell ⟨w.heap.size,3,none⟩ (.slice (some ⟨w11.heap.size,0,none⟩) 1 1)).alloc (.cells #[.string CB] 9)).cell? ⟨b1+1,0,none⟩=some (.int .i64 m2) from ⟨L12.out.z1.cell 0,L12.out.z2.cell 0⟩);have k11:=Ac (show w11.cell? ⟨b1,0,none⟩=some (.int .i64 m1)∧w11.cell? ⟨b1+1,0,none⟩=some (.int .i64 m2) from ⟨L11.out.z1.cell 0,L11.out.z2.cell 0⟩);clear hb11))
 go_wp2_with fail
 have TB0:tb≠w.heap.size:=by have:=HTZ.out;omega
 have P12:=Ac ((((P11.out.set L11.out.n0 1 (.int .i64 2)).set L11.out.n0 2 (.int .i64 m1)).set L11.out.n0 3 (.slice (some ⟨w11.heap.size,0,none⟩) 1 1)).below (Ag _ (.cells #[.string CB] 9)));have M12:=Ac ((((M11.out.set TB0 1 (.int .i64 2)).set TB0 2 (.int .i64 m1)).set TB0 3 (.slice (some ⟨w11.heap.size,0,none⟩) 1 1)).below (Ag _ (.cells #[.string CB] 9)));have U12:=Ac ((((U11.out.Di (Nat.le_refl _) 1 (.int .i64 2)).Di (Nat.le_refl _) 2 (.int .i64 m1)).Di (Nat.le_refl _) 3 (.slice (some ⟨w11.heap.size,0,none⟩) 1 1)).next (Ag _ (.cells #[.string CB] 9)))
 have SS12:SS ((((w11.setCell ⟨w.heap.size,1,none⟩ (.int .i64 2)).setCell ⟨w.heap.size,2,none⟩ (.int .i64 m1)).setCell ⟨w.heap.size,3,none⟩ (.slice (some ⟨w11.heap.size,0,none⟩) 1 1)).alloc (.cells #[.string CB] 9)) (some ⟨w11.heap.size,0,none⟩) 1 [CB]:=by
  have q:=Has.new (((w11.setCell ⟨w.heap.size,1,none⟩ (.int .i64 2)).setCell ⟨w.heap.size,2,none⟩ (.int .i64 m1)).setCell ⟨w.heap.size,3,none⟩ (.slice (some ⟨w11.heap.size,0,none⟩) 1 1)) 9 #[.string CB]
  have e:(((w11.setCell ⟨w.heap.size,1,none⟩ (.int .i64 2)).setCell ⟨w.heap.size,2,none⟩ (.int .i64 m1)).setCell ⟨w.heap.size,3,none⟩ (.slice (some ⟨w11.heap.size,0,none⟩) 1 1)).heap.size=w11.heap.size:=by simp
  rw [e] at q
  refine ⟨rfl,fun _=>⟨_,_,rfl,q.lt,fun i v hv=>?_⟩⟩
  have hi:i=0:=by have:=(List.getElem?_eq_some_iff.1 hv).1;simp at this;omega
  subst hi
  have hv2:CB=v:=by simpa using hv
  subst hv2;exact q.cell 0
 have S12:=Ac SS12;clear SS12 k10 k11 k12 L9 L10 L11 P9 P10 P11 M9 M10 M11 U9 U10 U11 z0 z1 z2 z3 zf zz a0 d0 FO CE
 generalize ((((w11.setCell ⟨w.heap.size,1,none⟩ (.int .i64 2)).setCell ⟨w.heap.size,2,none⟩ (.int .i64 m1)).setCell ⟨w.heap.size,3,none⟩ (.slice (some ⟨w11.heap.size,0,none⟩) 1 1)).alloc (.cells #[.string CB] 9))=W12 at *
 generalize w11.heap.size=cb1 at *
 refine (Jv n m1 (.slice (some ⟨cb1,0,none⟩) 1 1) W12).mono ?_
 rintro en w13 ⟨rfl,hb13⟩;have L13:=Ac (L12.out.below hb13);have P13:=Ac (P12.out.below hb13);have M13:=Ac (M12.out.below hb13);have U13:=Ac (U12.out.next hb13);have S13:=Ac (S12.out.keep hb13);clear hb13 L12 P12 M12 U12 S12;obtain ⟨z0,z1,z2,z3⟩:=L13.out.z0.cells4
 go_wp2_with (go_at_call 46;refine (SV3.out _ X9 (some ⟨cb1,0,none⟩) 1 P13.out M13.out S13.out).mono ?_;rintro en w14 ⟨rfl,X14,hp14,ht14⟩;have P14:=Ac hp14;have U14:=Ac ht14;clear hp14 ht14)
 have q:=P14.out;rw [← HCB.out] at q;have Q14:=Ac q;clear q
 go_end0
 exact ⟨rfl,X14,Q14.out,U13.out.trans U14.out⟩
theorem AY0 {w:World} {X:List (Option Nat)} {tb p root c k n l l2 m cp:Nat} {S S0:St} {A:Option Addr} {cs:List It} {key:Ky} {cl cr:List ByteArray} (h:PT w X p S S0 c k) (ht:TM w X tb p root) (hc:c+10≤60000) (hk:k≤800000000) (hq:S.q≤59000) (h0:0<n) (hn:n<S.q) (hf:n∉S.fr)
 (hs:SS w A m (cs.map Af)) (hm:m≤1000) (hu:1012<Ai cs) (hu2:Ai cs≤100000) (hkey:key.length≤200) (hcl:cl.length≤1000) (hcr:cr.length≤1000)
 (SPL:∀ W,Below w.heap.size w W→Calls Tryz.prog 143 #[.pointer (some ⟨tb,0,none⟩),.agg #[.int .i64 n,.int .i64 2,.int .i64 l,.slice A m cp]] W (Vy W n 2 l l2 (bsK key) cl cr))
 (hl:l≤2147483647) (hl2:l2≤2147483647) (h1:Be cl≤1012) (h2:Be cr≤1012) :
 Calls Tryz.prog 142 #[.pointer (some ⟨tb,0,none⟩),.agg #[.int .i64 n,.int .i64 2,.int .i64 l,.slice A m cp]] w
  (Hw X w p ((((S.alloc.alloc).set S.Ah (2,l,cl)).set S.alloc.Ah (2,l2,cr)).set n (2,S.Ah,[Af ⟨key,Ak S.alloc.Ah⟩])) S0 (c+7) (k+11) (.tuple #[])):=by
 have hok:=h.ok;have HP:=Ac h;have HT:=Ac ht;have HCK:=Ac (And.intro hc (And.intro hk hq))
 have A1:=Ac (fun W (h:PT W X p S S0 c k) (ht:TM W X tb p root)=>Nq h ht (by omega) (by omega) (by omega))
 have hq1:=hok.Ah
 have A2:=Ac (fun W X (h:PT W X p S.alloc S0 (c+2) (k+4)) (ht:TM W X tb p root)=>Nq h ht (by omega) (by omega) (by omega))
 have US:=Ac (fun W (h:SS W A m (cs.map Af))=>Gh A m cp (cs.map Af) W h (by omega) (by rw [Ee];omega))
 rw [Ee] at US;have B0:=Ac (Ag w (.cells #[.int .i64 n,.int .i64 2,.int .i64 l,.slice A m cp] 116));have HSS:=Ac hs;have R0:=Ac (Has.new w 116 #[.int .i64 n,.int .i64 2,.int .i64 l,.slice A m cp]);obtain ⟨us,hus⟩:∃ us,Ai cs=us:=⟨_,rfl⟩;rw [hus] at US hu
 have u1:(1012:Int)<(us:Int):=by omega
 have SP:=Ac SPL;obtain ⟨K,hK⟩:∃ K,bsK key=K:=⟨_,rfl⟩;rw [hK] at SP;have HKY:=Ac hK;have ltx:=Ac h.lt
 have NR:Hid (some w.heap.size∉X):=Ac (fun hm=>by have:=h.lt _ hm;omega)
 have HN:=Ac (And.intro h0 (And.intro hn hf));have HSZ:=Ac (And.intro hl (And.intro hl2 (And.intro h1 h2)));have HOK:=Ac hok;have HCL:=Ac (And.intro hcl hcr);have HTZ:=Ac ht.has.lt;have HKL:=Ac hkey;clear h ht hs hm hus SPL hu2 hu hc hk hq h0 hn hf hl hl2 h1 h2 hok hq1 hK hcl hcr hkey
 go_enter Tryz.func142,Tryz.ntmps142
 go_wp2_with (first
  | (go_at_call 141;refine (US.out _ (HSS.out.keep B0.out)).mono ?_;rintro e w1 ⟨rfl,rfl⟩)
  | (go_at_call 143;refine (SP.out _ B0.out).mono ?_;rintro en w1 ⟨va,vb,rfl,hoa,hob,hab,hb1⟩;obtain ⟨Aa,ca,rfl,_⟩:=Bd hoa;obtain ⟨Ab,cb,rfl,_⟩:=Bd hob;have OA:=Ac hoa;have OB:=Ac hob;have AB:=Ac hab;have HB1:=Ac hb1;clear hoa hob hab hb1))
 have LC:Loc ((w1.alloc (.cells #[.int .i64 n,.int .i64 2,.int .i64 l,.slice Aa cl.length ca] 116)).alloc (.cells #[.int .i64 n,.int .i64 2,.int .i64 l2,.slice Ab cr.length cb] 116)) X w.heap.size w1.heap.size (w1.heap.size+1) #[.int .i64 n,.int .i64 2,.int .i64 l,.slice A m cp] #[.int .i64 n,.int .i64 2,.int .i64 l,.slice Aa cl.length ca] #[.int .i64 n,.int .i64 2,.int .i64 l2,.slice Ab cr.length cb] (.slice Aa cl.length ca) (.slice Ab cr.length cb) cl cr:=by
  have e1:w.heap.size<w1.heap.size:=by have:=HB1.out.size;simp at this;omega
  have q2:=Has.new (w1.alloc (.cells #[.int .i64 n,.int .i64 2,.int .i64 l,.slice Aa cl.length ca] 116)) 116 #[.int .i64 n,.int .i64 2,.int .i64 l2,.slice Ab cr.length cb];rw [World.size_alloc] at q2;have low:∀ i,some i∈X→i<w.heap.size:=ltx.out
  refine ⟨((R0.out.Aj HB1.out).alloc _).alloc _,(Has.new _ _ _).alloc _,q2,NR.out,fun hm=>by have:=low _ hm;omega,fun hm=>by have:=low _ hm;omega,e1,Nat.lt_succ_self _,own_base ((OA.out.alloc _).alloc _) (Nat.zero_le _),own_base ((OB.out.alloc _).alloc _) (Nat.zero_le _),fun g hg=>?_,fun g hg=>?_⟩
  ·have:=OA.out.lt g hg
   simp at this
   exact ⟨fun hm=>by have:=low _ hm;omega,by omega,by omega,by omega⟩
  ·have:=OB.out.lt g hg
   simp at this
   exact ⟨fun hm=>by have:=low _ hm;omega,by omega,by omega,by omega⟩
 have BB:=((Below.refl w1.heap.size w1).alloc (Nat.le_refl _) (.cells #[.int .i64 n,.int .i64 2,.int .i64 l,.slice Aa cl.length ca] 116)).alloc (by simp) (.cells #[.int .i64 n,.int .i64 2,.int .i64 l2,.slice Ab cr.length cb] 116)
 have P2:=Ac (((HP.out.below B0.out).below HB1.out).below BB);have M2:=Ac (((HT.out.below B0.out).below HB1.out).below BB);have U2:=Ac (((Turn.below X B0.out).next HB1.out).next BB)
 have XZ:Hid (w.heap.size≤w1.heap.size):=Ac (by have:=HB1.out.size;simp at this;omega)
 have L2:=Ac LC;clear LC BB
 generalize ((w1.alloc (.cells #[.int .i64 n,.int .i64 2,.int .i64 l,.slice Aa cl.length ca] 116)).alloc (.cells #[.int .i64 n,.int .i64 2,.int .i64 l2,.slice Ab cr.length cb] 116))=W2 at *
 generalize w1.heap.size=b1 at *
 have D01:=L2.out.d1;clear HSS US R0 OA OB AB HB1 SP B0 HP HT
 refine (A1.out W2 P2.out M2.out).mono ?_
 rintro en w3 ⟨rfl,X3,hp3,ht3⟩;have P3:=Ac hp3;have M3:=Ac (M2.out.turn ht3);have L3:=Ac (L2.out.turn ht3);have U3:=Ac (U2.out.trans ht3);clear hp3 ht3 P2 M2 L2 U2 A1
 go_wp2_with fail
 refine (A2.out w3 X3 P3.out M3.out).mono ?_
 rintro en w4 ⟨rfl,X4,hp4,ht4⟩;have P4:=Ac hp4;have M4:=Ac (M3.out.turn ht4);have L4:=Ac (L3.out.turn ht4);have U4:=Ac (U3.out.trans ht4);have OK1:=Ac P3.out.ok;have OK2:=Ac hp4.ok;clear hp4 ht4 P3 M3 L3 U3 A2;obtain ⟨a0,a1,a2,a3⟩:=L4.out.z1.cells4;obtain ⟨d0,d1,d2,d3⟩:=L4.out.z2.cells4;have f1:=L4.out.z1.frozen;have f2:=L4.out.z2.frozen;have y1:=L4.out.z1.lt;have y2:=L4.out.z2.lt
 go_wp2_with fail
 have hm1:=(HOK.out).Ah;have hm2:=(OK1.out).Ah;have hm3:=(OK1.out).other hm1.2.1 hm1.2.2.1;have hn1:=(HOK.out).other HN.out.2.1 HN.out.2.2;have hn2:=(OK1.out).other hn1.2.1 hn1.2.2
 have F1:=Ac (show 0<S.Ah∧S.Ah<S.alloc.alloc.q∧S.Ah∉S.alloc.alloc.fr∧0<S.alloc.Ah∧S.alloc.Ah<S.alloc.alloc.q∧S.alloc.Ah∉S.alloc.alloc.fr∧0<n∧n<S.alloc.alloc.q∧n∉S.alloc.alloc.fr∧S.alloc.alloc.q≤65536 from ⟨hm1.1,hm3.2.1,hm3.2.2,hm2.1,hm2.2.1,hm2.2.2.1,HN.out.1,hn2.2.1,hn2.2.2,OK2.out.few⟩)
 clear hm1 hm2 hm3 hn1 hn2 OK1 OK2 HN HOK
 generalize S.Ah=m1 at *
 generalize S.alloc.Ah=m2 at *
 generalize S.alloc.alloc=S2 at *
 have L5:Loc ((w4.setCell ⟨b1,0,none⟩ (.int .i64 m1)).setCell ⟨b1+1,0,none⟩ (.int .i64 m2)) X4 w.heap.size b1 (b1+1) #[.int .i64 n,.int .i64 2,.int .i64 l,.slice A m cp] #[.int .i64 m1,.int .i64 2,.int .i64 l,.slice Aa cl.length ca] #[.int .i64 m2,.int .i64 2,.int .i64 l2,.slice Ab cr.length cb] (.slice Aa cl.length ca) (.slice Ab cr.length cb) cl cr:=(L4.out.set1 0 (.int .i64 m1)).set2 0 (.int .i64 m2)
 have P5:=Ac ((P4.out.set L4.out.n1 0 (.int .i64 m1)).set L4.out.n2 0 (.int .i64 m2))
 have TB1:tb≠b1:=by have:=XZ.out;have:=HTZ.out;omega
 have TB2:tb≠b1+1:=by have:=XZ.out;have:=HTZ.out;omega
 have M5:=Ac ((M4.out.set TB1 0 (.int .i64 m1)).set TB2 0 (.int .i64 m2));have U5:=Ac ((U4.out.Di XZ.out 0 (.int .i64 m1)).Di (Nat.le_succ_of_le XZ.out) 0 (.int .i64 m2))
 generalize ((w4.setCell ⟨b1,0,none⟩ (.int .i64 m1)).setCell ⟨b1+1,0,none⟩ (.int .i64 m2))=W5 at *
 clear P4 M4 L4 U4 a0 a1 a2 a3 d0 d1 d2 d3 f1 f2 y1 y2
 refine (Jv m1 l (.slice Aa cl.length ca) W5).mono ?_
 rintro en w6 ⟨rfl,hb6⟩;have L6:=Ac (L5.below hb6);have P6:=Ac (P5.out.below hb6);have M6:=Ac (M5.out.below hb6);have U6:=Ac (U5.out.next hb6);clear hb6 L5 P5 M5 U5;obtain ⟨a0,a1,a2,a3⟩:=L6.out.z1.cells4;obtain ⟨d0,d1,d2,d3⟩:=L6.out.z2.cells4;have f1:=L6.out.z1.frozen;have y1:=L6.out.z1.lt;have y2:=L6.out.z2.lt
 go_wp2_with fail
 have PG1:Qq (2,l,cl):=⟨by show 1≤2;omega,by show 2≤5;omega,by have h1:=F1.out;have h2:=HSZ.out.1;show l≤2147483647;omega,HSZ.out.2.2.1⟩
 have PG2:Qq (2,l2,cr):=⟨by show 1≤2;omega,by show 2≤5;omega,HSZ.out.2.1,HSZ.out.2.2.2⟩
 have SV1:=Ac (fun W X (h:PT W X p S2 S0 (c+2+2) (k+4+4)) (ht:TM W X tb p root) (hs:SS W Aa cl.length cl)=>Dp (n:=m1) (cp:=ca) (pg:=(2,l,cl)) h ht (by have:=HCK.out;omega) (by have:=HCK.out;omega) F1.out.1 F1.out.2.1 F1.out.2.2.1 PG1 hs (by have:=HCL.out;omega))
 have SV2:=Ac (fun W X (h:PT W X p (S2.set m1 (2,l,cl)) S0 (c+2+2+1) (k+4+4+1)) (ht:TM W X tb p root) (hs:SS W Ab cr.length cr)=>Dp (n:=m2) (cp:=cb) (pg:=(2,l2,cr)) h ht (by have:=HCK.out;omega) (by have:=HCK.out;omega) F1.out.2.2.2.1 F1.out.2.2.2.2.1 F1.out.2.2.2.2.2.1 PG2 hs (by have:=HCL.out;omega))
 clear PG1 PG2 f1 y1 y2;have L7:Loc w6 X4 w.heap.size b1 (b1+1) #[.int .i64 n,.int .i64 2,.int .i64 l,.slice A m cp] #[.int .i64 m1,.int .i64 2,.int .i64 l,.slice Aa cl.length ca] #[.int .i64 m2,.int .i64 2,.int .i64 l2,.slice Ab cr.length cb] (.slice Aa cl.length ca) (.slice Ab cr.length cb) cl cr:=L6.out;have P7:=P6.out;have M7:=M6.out;have U7:=U6.out;clear L6 P6 M6 U6 a0 a1 a2 a3 d0 d1 d2 d3
 refine (SV1.out _ X4 P7 M7 (SS.Dv L7.oa)).mono ?_
 rintro en w8 ⟨rfl,X8,hp8,ht8⟩;have L8:=Ac (L7.turn ht8);have P8:=Ac hp8;have M8:=Ac (M7.turn ht8);have U8:=Ac (U7.trans ht8);clear hp8 ht8 L7 P7 M7 U7 SV1;obtain ⟨d0,d1,d2,d3⟩:=L8.out.z2.cells4
 go_wp2_with fail
 refine (SV2.out _ X8 P8.out M8.out (SS.Dv L8.out.ob)).mono ?_
 rintro en w9 ⟨rfl,X9,hp9,ht9⟩;have L9:=Ac (L8.out.turn ht9);have P9:=Ac hp9;have M9:=Ac (M8.out.turn ht9);have U9:=Ac (U8.out.trans ht9);clear hp9 ht9 L8 P8 M8 U8 SV2 d0 d1 d2 d3
 go_wp2_with fail
 have FO:=Ac (fun W=>Jh m2 (by have:=F1.out;omega) W)
 have CE:=Ac (fun W=>Ih ⟨key,Ak m2⟩ HKL.out (by simp [Ak]) W)
 have CEK:bsK (⟨key,Ak m2⟩:It).k=K:=HKY.out;rw [CEK] at CE
 have SV3:=Ac (fun W X A c1 (h:PT W X p ((S2.set m1 (2,l,cl)).set m2 (2,l2,cr)) S0 (c+2+2+1+1) (k+4+4+1+1)) (ht:TM W X tb p root) (hs:SS W A 1 [Af ⟨key,Ak m2⟩])=>Dp (n:=n) (cp:=c1) (pg:=(2,m1,[Af ⟨key,Ak m2⟩])) h ht (by have:=HCK.out;omega) (by have:=HCK.out;omega) F1.out.2.2.2.2.2.2.1 F1.out.2.2.2.2.2.2.2.1 F1.out.2.2.2.2.2.2.2.2.1 ⟨by show 1≤2;omega,by show 2≤5;omega,by have:=F1.out;show m1≤2147483647;omega,by
  show Be [Af ⟨key,Ak m2⟩]≤1012
  unfold Be;simp only [List.map_cons,List.map_nil,List.sum_cons,List.sum_nil,Ef,fourL_len];have:=HKL.out
  omega⟩ hs (by omega))
 obtain ⟨F,hF⟩:∃ F,bsK (Ak m2)=F:=⟨_,rfl⟩;obtain ⟨CB,hCB⟩:∃ CB,Af ⟨key,Ak m2⟩=CB:=⟨_,rfl⟩;have hF2:bsK (⟨key,Ak m2⟩:It).r=F:=hF;rw [hF2,hCB] at CE;rw [hF] at FO;rw [hCB] at SV3;have HCB:=Ac hCB;clear hF hF2 hCB CEK;have a0:=L9.out.z1.cell 0;have d0:=L9.out.z2.cell 0
 go_region_held3 (fun w'=>w'.cell? ⟨b1,0,none⟩=some (.int .i64 m1)∧w'.cell? ⟨b1+1,0,none⟩=some (.int .i64 m2)) (first | (with_reducible exact k12.out) | (with_reducible exact k11.out) | (with_reducible exact k10.out) | go_keep)
  (first
    | (go_at_call 134;refine (FO.out _).mono ?_;rintro en w10 ⟨rfl,hb10⟩;have L10:=Ac ((L9.out.below ((Below.refl _ _).drew)).below hb10);have P10:=Ac ((Zp P9.out).below hb10);have M10:=Ac ((M9.out.below ((Below.refl _ _).drew)).below hb10);have U10:=Ac ((U9.out.next ((Below.refl _ _).drew)).next hb10);have k10:=Ac (show w10.cell? ⟨b1,0,none⟩=some (.int .i64 m1)∧w10.cell? ⟨b1+1,0,none⟩=some (.int .i64 m2) from ⟨L10.out.z1.cell 0,L10.out.z2.cell 0⟩);clear hb10)
    | (go_at_call 133;refine (CE.out _).mono ?_;rintro en w11 ⟨rfl,hb11⟩;have L11:=Ac (L10.out.below hb11);have P11:=Ac (P10.out.below hb11);have M11:=Ac (M10.out.below hb11);have U11:=Ac (U10.out.next hb11);obtain ⟨z0,z1,z2,z3⟩:=L11.out.z0.cells4;have zf:=L11.out.z0.frozen;have zz:=L11.out.z0.lt;have L12:Hid (Loc ((((w11.setCell ⟨w.heap.size,1,none⟩ (.int .i64 2)).setCell ⟨w.heap.size,2,none⟩ (.int .i64 m1)).setCell ⟨w.heap.size,3,none⟩ (.slice (some ⟨w11.heap.size,0,none⟩) 1 1)).alloc (.cells #[.string CB] 9)) X9 w.heap.size b1 (b1+1) #[.int .i64 n,.int .i64 2,.int .i64 m1,.slice (some ⟨w11.heap.size,0,none⟩) 1 1] #[.int .i64 m1,.int .i64 2,.int .i64 l,.slice Aa cl.length ca] #[.int .i64 m2,.int .i64 2,.int .i64 l2,.slice Ab cr.length cb] (.slice Aa cl.length ca) (.slice Ab cr.length cb) cl cr):=Ac ((((L11.out.set0 1 (.int .i64 2)).set0 2 (.int .i64 m1)).set0 3 (.slice (some ⟨w11.heap.size,0,none⟩) 1 1)).below (Ag _ _));have k12:=Ac (show ((((w11.setCell ⟨w.heap.size,1,none⟩ (.int .i64 2)).setCell ⟨w.heap.size,2,none⟩ (.int .i64 m1)).setCell ⟨w.heap.size,3,none⟩ (.slice (some ⟨w11.heap.size,0,none⟩) 1 1)).alloc (.cells #[.string CB] 9)).cell? ⟨b1,0,none⟩=some (.int .i64 m1)∧((((w11.setCell ⟨w.heap.size,1,none⟩ (.int .i64 2)).setCell ⟨w.heap.size,2,none⟩ (.int .i64 m1)).setCell ⟨w.heap.size,3,none⟩ (.slice (some ⟨w11.heap.size,0,none⟩) 1 1)).alloc (.cells #[.string CB] 9)).cell? ⟨b1+1,0,none⟩=some (.int .i64 m2) from ⟨L12.out.z1.cell 0,L12.out.z2.cell 0⟩);have k11:=Ac (show w11.cell? ⟨b1,0,none⟩=some (.int .i64 m1)∧w11.cell? ⟨b1+1,0,none⟩=some (.int .i64 m2) from ⟨L11.out.z1.cell 0,L11.out.z2.cell 0⟩);clear hb11))
 go_wp2_with fail
 have TB0:tb≠w.heap.size:=by have:=HTZ.out;omega
 have P12:=Ac ((((P11.out.set L11.out.n0 1 (.int .i64 2)).set L11.out.n0 2 (.int .i64 m1)).set L11.out.n0 3 (.slice (some ⟨w11.heap.size,0,none⟩) 1 1)).below (Ag _ (.cells #[.string CB] 9)));have M12:=Ac ((((M11.out.set TB0 1 (.int .i64 2)).set TB0 2 (.int .i64 m1)).set TB0 3 (.slice (some ⟨w11.heap.size,0,none⟩) 1 1)).below (Ag _ (.cells #[.string CB] 9)));have U12:=Ac ((((U11.out.Di (Nat.le_refl _) 1 (.int .i64 2)).Di (Nat.le_refl _) 2 (.int .i64 m1)).Di (Nat.le_refl _) 3 (.slice (some ⟨w11.heap.size,0,none⟩) 1 1)).next (Ag _ (.cells #[.string CB] 9)))
 have SS12:SS ((((w11.setCell ⟨w.heap.size,1,none⟩ (.int .i64 2)).setCell ⟨w.heap.size,2,none⟩ (.int .i64 m1)).setCell ⟨w.heap.size,3,none⟩ (.slice (some ⟨w11.heap.size,0,none⟩) 1 1)).alloc (.cells #[.string CB] 9)) (some ⟨w11.heap.size,0,none⟩) 1 [CB]:=by
  have q:=Has.new (((w11.setCell ⟨w.heap.size,1,none⟩ (.int .i64 2)).setCell ⟨w.heap.size,2,none⟩ (.int .i64 m1)).setCell ⟨w.heap.size,3,none⟩ (.slice (some ⟨w11.heap.size,0,none⟩) 1 1)) 9 #[.string CB]
  have e:(((w11.setCell ⟨w.heap.size,1,none⟩ (.int .i64 2)).setCell ⟨w.heap.size,2,none⟩ (.int .i64 m1)).setCell ⟨w.heap.size,3,none⟩ (.slice (some ⟨w11.heap.size,0,none⟩) 1 1)).heap.size=w11.heap.size:=by simp
  rw [e] at q
  refine ⟨rfl,fun _=>⟨_,_,rfl,q.lt,fun i v hv=>?_⟩⟩
  have hi:i=0:=by have:=(List.getElem?_eq_some_iff.1 hv).1;simp at this;omega
  subst hi
  have hv2:CB=v:=by simpa using hv
  subst hv2;exact q.cell 0
 have S12:=Ac SS12;clear SS12 k10 k11 k12 L9 L10 L11 P9 P10 P11 M9 M10 M11 U9 U10 U11 z0 z1 z2 z3 zf zz a0 d0 FO CE
 generalize ((((w11.setCell ⟨w.heap.size,1,none⟩ (.int .i64 2)).setCell ⟨w.heap.size,2,none⟩ (.int .i64 m1)).setCell ⟨w.heap.size,3,none⟩ (.slice (some ⟨w11.heap.size,0,none⟩) 1 1)).alloc (.cells #[.string CB] 9))=W12 at *
 generalize w11.heap.size=cb1 at *
 refine (Jv n m1 (.slice (some ⟨cb1,0,none⟩) 1 1) W12).mono ?_
 rintro en w13 ⟨rfl,hb13⟩;have L13:=Ac (L12.out.below hb13);have P13:=Ac (P12.out.below hb13);have M13:=Ac (M12.out.below hb13);have U13:=Ac (U12.out.next hb13);have S13:=Ac (S12.out.keep hb13);clear hb13 L12 P12 M12 U12 S12;obtain ⟨z0,z1,z2,z3⟩:=L13.out.z0.cells4
 go_wp2_with (go_at_call 46;refine (SV3.out _ X9 (some ⟨cb1,0,none⟩) 1 P13.out M13.out S13.out).mono ?_;rintro en w14 ⟨rfl,X14,hp14,ht14⟩;have P14:=Ac hp14;have U14:=Ac ht14;clear hp14 ht14)
 have q:=P14.out;rw [← HCB.out] at q;have Q14:=Ac q;clear q
 go_end0
 exact ⟨rfl,X14,Q14.out,U13.out.trans U14.out⟩
def Zl:Nat→St→Ky→St
 | 0,S,v=>S.alloc.set S.Ah (5,0,[bsK v])
 | j+1,S,v=>if 1008<v.length then (Zl j S.alloc (v.drop 1008)).set S.Ah (5,S.alloc.Ah,[bsK (v.take 1008)]) else S.alloc.set S.Ah (5,0,[bsK v])
theorem St.XP0 {S:St} (h:EM0 S) {n:Nat} {p:Pg} (h0:0<n) (hf:n∉S.fr) (hp:Qq p):EM0 (S.set n p):=by
 refine ⟨h.pos,h.few,h.rng,h.nd,Jb h.chain fun x hx=>Aq fun e=>hf (e ▸ hx), ?_,fun m hm=>?_⟩
 ·show Hm S.G n p 0=_
  rw [Aq (by omega)];exact h.root
 ·show Qq (Hm S.G n p m)
  by_cases e:m=n
  ·rw [e,Dj];exact hp
  ·rw [Aq e];exact h.pg m hm
theorem St.Nc {S:St} (h:EM0 S) (hq:S.q≤65000):EM0 S.alloc:=by
 have hfew:=h.few;unfold St.alloc
 cases hf:S.fr with
 | nil =>
   refine ⟨Nat.succ_pos _,by show S.q+1≤_;omega,(fun x hx=>by cases hx),List.nodup_nil,trivial, ?_,fun m hm=>?_⟩
   ·have hp:=h.pos
    show Hm S.G S.q (3,0,[]) 0=_
    rw [Aq (by omega),h.root,hf]
   ·have hm2:m<S.q+1:=hm
    show Qq (Hm S.G S.q (3,0,[]) m)
    by_cases e:m=S.q
    ·rw [e,Dj];exact Jg (by omega) (by omega) (by omega)
    ·rw [Aq e];exact h.pg m (by omega)
 | cons x r =>
   have hr:=h.rng x (by rw [hf];exact List.mem_cons_self)
   have hc:=h.chain;have hnd:=h.nd;rw [hf] at hc hnd;obtain ⟨n1,n2⟩:=List.nodup_cons.1 hnd
   have hl:r.headD 0≤65536:=by
    cases hr2:r with
    | nil=>exact Nat.zero_le _
    | cons y t=>have:=(h.rng y (by rw [hf,hr2];simp)).2;show y≤_;omega
   refine ⟨h.pos,h.few,fun y hy=>h.rng y (by rw [hf];exact List.mem_cons_of_mem _ hy),n2,Jb hc.2 fun y hy=>?_, ?_,fun m hm=>?_⟩
   ·have:y≠x:=fun e=>n1 (e ▸ hy)
    show Hm (Hm S.G 0 _) x _ y=S.G y
    rw [Aq this,Aq (by have:=(h.rng y (by rw [hf];exact List.mem_cons_of_mem _ hy)).1;omega)]
   ·show Hm (Hm S.G 0 _) x _ 0=_
    rw [Aq (by omega),Dj]
   ·show Qq (Hm (Hm S.G 0 (4,r.headD 0,[])) x (3,0,[]) m)
    by_cases e:m=x
    ·rw [e,Dj];exact Jg (by omega) (by omega) (by omega)
    ·rw [Aq e]
     by_cases e0:m=0
     ·rw [e0,Dj];exact Jg (by omega) (by omega) (by omega)
     ·rw [Aq e0];exact h.pg m hm
theorem Tt {l:Nat} {v:Ky} (hl:l≤2147483647) (hv:v.length≤1008):Qq (5,l,[bsK v]):=⟨by show 1≤5;omega,by show 5≤5;omega,hl,by
 show Be [bsK v]≤1012
 unfold Be
 simp only [List.map_cons,List.map_nil,List.sum_cons,List.sum_nil,Bo];omega⟩
structure DX1 (S S':St) (j:Nat):Prop where
 ok:EM0 S'
 q1:S.q≤S'.q
 q2:S'.q≤S.q+j+1
 keep:∀ x,x<S.q→x∉S.fr→x∉S'.fr∧(x≠0→S'.G x=S.G x)
 fst:S.Ah∉S'.fr
theorem NT0:∀ (j:Nat) {S:St} {v:Ky},EM0 S→S.q+j≤60000→v.length≤1008*(j+1)→DX1 S (Zl j S v) j
 | 0,S,v,h,hq,hv=>by
   have ha:=h.Ah
   refine ⟨St.XP0 (St.Nc h (by omega)) ha.1 ha.2.2.1 (Tt (by omega) (by omega)),ha.2.2.2.1,ha.2.2.2.2,fun x hx hf=>?_,ha.2.2.1⟩
   have ho:=h.other hx hf
   exact ⟨ho.2.2,fun h0=>(Aq ho.1).trans (h.BT0 h0 ho.1)⟩
 | j+1,S,v,h,hq,hv=>by
   have ha:=h.Ah
   have h1:=St.Nc h (by omega)
   unfold Zl
   by_cases hl:1008<v.length
   ·rw [if_pos hl]
    have m:=NT0 j (v:=v.drop 1008) h1 (by omega) (by rw [List.length_drop];omega)
    have hb:=m.keep S.Ah ha.2.1 ha.2.2.1;have hal:=h1.Ah
    refine ⟨St.XP0 m.ok ha.1 hb.1 (Tt (by have:=h1.few;have:=hal.2.2.2.2;omega) (by rw [List.length_take];omega)),Nat.le_trans ha.2.2.2.1 m.q1,by have:=m.q2;show _≤_;exact Nat.le_trans m.q2 (by omega),fun x hx hf=>?_,hb.1⟩
    have ho:=h.other hx hf;have hk:=m.keep x ho.2.1 ho.2.2
    exact ⟨hk.1,fun h0=>(Aq ho.1).trans ((hk.2 h0).trans (h.BT0 h0 ho.1))⟩
   ·rw [if_neg hl]
    refine ⟨St.XP0 h1 ha.1 ha.2.2.1 (Tt (by omega) (by omega)),ha.2.2.2.1,by show S.alloc.q≤_;omega,fun x hx hf=>?_,ha.2.2.1⟩
    have ho:=h.other hx hf
    exact ⟨ho.2.2,fun h0=>(Aq ho.1).trans (h.BT0 h0 ho.1)⟩
theorem Tn {w:World} {X:List (Option Nat)} {tb p root c k:Nat} {S S0:St} {v:Ky} (h:PT w X p S S0 c k) (ht:TM w X tb p root) (hc:c+3≤60000) (hk:k≤800000000) (hq:S.q≤59000) (hv:v.length≤1008) :
 Calls Tryz.prog 135 #[.pointer (some ⟨tb,0,none⟩),.string (bsK v)] w (Hw X w p (S.alloc.set S.Ah (5,0,[bsK v])) S0 (c+3) (k+5) (.int .i64 S.Ah)):=by
 have hok:=h.ok;have ha:=hok.Ah
 have AL:=Ac (BL0 h (by omega) (by omega) (by omega))
 have WR:=Ac (fun W X (h:PT W X p S.alloc S0 (c+2) (k+4))=>IB0 h (by omega) (by omega) ha.1 ha.2.1 ha.2.2.1 (Tt (l:=0) (by omega) hv))
 have HT:=Ac ht
 have hz:(bsK v).size≤1008:=by rw [Bo];exact hv
 have SL:=Ac (fun W A (h:SS W A 1 [bsK v])=>Qe 5 0 A 1 1 [bsK v] W h (by omega) (by unfold Be;simp only [List.map_cons,List.map_nil,List.sum_cons,List.sum_nil];omega))
 have es:Dc (5:Int) (0:Int) [bsK v]=Kw (5,0,[bsK v]):=rfl
 have ee:Oc (5:Int) (0:Int) [bsK v]=0:=by
  unfold Oc
  rw [if_neg (by omega),if_neg (by unfold Be;simp only [List.map_cons,List.map_nil,List.sum_cons,List.sum_nil];omega)]
 rw [es,ee] at SL;obtain ⟨s,hs⟩:∃ s,bsK v=s:=⟨_,rfl⟩;rw [hs] at SL hz;have HS:=Ac hs
 have EX:=Ac (show s.extract 0 s.size=s from ByteArray.extract_zero_size)
 rw [hs] at WR;obtain ⟨sp,hsp⟩:∃ sp,Kw (5,0,[s])=sp:=⟨_,rfl⟩;rw [hsp] at SL WR;rw [HS.out];have t1:=ht.has.cells2.1;have tz:=ht.has.lt;have ltx:=Ac h.lt;clear h ht hc hk hq hok ha hs hsp es ee hv
 go_enter Tryz.func135,Tryz.ntmps135
 go_wp2_with (first
  | (go_at_call 45;refine AL.out.mono ?_;rintro en w1 ⟨rfl,X1,hp1,ht1⟩;have P1:=Ac hp1;have U1:=Ac ht1;have M1:=Ac (HT.out.turn ht1);clear hp1 ht1 t1 tz;have t1:=M1.out.has.cells2.1;have tz:=M1.out.has.lt)
  | (go_at_call 129;refine (Et _).mono ?_;rintro e w1 ⟨rfl,rfl⟩))
 rw [show (min (s.size:Int) 1008).toNat=s.size by omega,EX.out]
 have q:=Has.new w1 9 #[.string s]
 have SSs:SS (w1.alloc (.cells #[.string s] 9)) (some ⟨w1.heap.size,0,none⟩) 1 [s]:=by
  refine ⟨rfl,fun _=>⟨_,_,rfl,q.lt,fun i v hv=>?_⟩⟩
  have hi:i=0:=by have:=(List.getElem?_eq_some_iff.1 hv).1;simp at this;omega
  subst hi
  have hv2:s=v:=by simpa using hv
  subst hv2;exact q.cell 0
 refine (SL.out _ _ SSs).mono ?_
 rintro en w2 ⟨rfl,hb2⟩
 have BB:=Am (Ag w1 (.cells #[.string s] 9)) hb2 (by simp)
 have P2:=Ac (P1.out.below BB);have M2:=Ac (M1.out.below BB);have U2:=Ac (U1.out.next BB);clear q SSs hb2 BB t1 tz;have t1:=M2.out.has.cells2.1;have tz:=M2.out.has.lt
 go_wp2_with (first
  | (go_at_call 72;refine (WR.out _ _ P2.out).mono ?_;rintro en w3 ⟨rfl,X3,hp3,ht3⟩;have P3:=Ac hp3;have U3:=Ac ht3;clear hp3 ht3)
  | (go_at_call 129;refine (Et _).mono ?_;rintro e w1 ⟨rfl,rfl⟩))
 have FIN:=Ac (show PT w3 X3 p (S.alloc.set S.Ah (5,0,[s])) S0 (c+3) (k+5) from P3.out)
 go_ret
 exact ⟨rfl,X3,FIN.out,U2.out.trans U3.out⟩
theorem EY0 {w:World} {X:List (Option Nat)} {tb p root c k j:Nat} {S S0:St} {v:Ky} (h:PT w X p S S0 c k) (ht:TM w X tb p root) (hc:c+3*(j+2)≤60000) (hk:k+5*(j+2)≤800000000) (hq:S.q+j≤58000) (hv:1008<v.length) (hv2:v.length≤1008*(j+2)) (hv3:v.length≤100000)
 (IH:∀ W X,PT W X p S.alloc S0 (c+2) (k+4)→TM W X tb p root→Calls Tryz.prog 135 #[.pointer (some ⟨tb,0,none⟩),.string (bsK (v.drop 1008))] W (Hw X W p (Zl j S.alloc (v.drop 1008)) S0 (c+2+3*(j+1)) (k+4+5*(j+1)) (.int .i64 S.alloc.Ah))) :
 Calls Tryz.prog 135 #[.pointer (some ⟨tb,0,none⟩),.string (bsK v)] w (Hw X w p ((Zl j S.alloc (v.drop 1008)).set S.Ah (5,S.alloc.Ah,[bsK (v.take 1008)])) S0 (c+2+3*(j+1)+1) (k+4+5*(j+1)+1) (.int .i64 S.Ah)):=by
 have hok:=h.ok;have ha:=hok.Ah
 have h1:=St.Nc hok (by omega)
 have ha2:=h1.Ah
 have hm:=NT0 j (v:=v.drop 1008) h1 (by omega) (by rw [List.length_drop];omega)
 have hb:=hm.keep S.Ah ha.2.1 ha.2.2.1
 have AL:=Ac (BL0 h (by omega) (by omega) (by omega))
 have hpg:Qq (5,S.alloc.Ah,[bsK (v.take 1008)]):=Tt (by have:=h1.few;omega) (by rw [List.length_take];omega)
 have WR:=Ac (fun W X (h:PT W X p (Zl j S.alloc (v.drop 1008)) S0 (c+2+3*(j+1)) (k+4+5*(j+1)))=>IB0 h (by omega) (by omega) ha.1 (Nat.lt_of_lt_of_le ha.2.1 hm.q1) hb.1 hpg)
 have HT:=Ac ht;have HIH:=Ac IH
 have SL:=Ac (fun W A (h:SS W A 1 [bsK (v.take 1008)])=>Qe 5 (S.alloc.Ah:Nat) A 1 1 [bsK (v.take 1008)] W h (by omega) (by have a4:Be [bsK (v.take 1008)]≤1012:=hpg.2.2.2;omega))
 have es:Dc (5:Int) ((S.alloc.Ah:Nat):Int) [bsK (v.take 1008)]=Kw (5,S.alloc.Ah,[bsK (v.take 1008)]):=rfl
 have ee:Oc (5:Int) ((S.alloc.Ah:Nat):Int) [bsK (v.take 1008)]=0:=by
  have a3:S.alloc.Ah≤2147483647:=hpg.2.2.1;have a4:Be [bsK (v.take 1008)]≤1012:=hpg.2.2.2;unfold Oc
  rw [if_neg (by omega),if_neg (by omega)]
 rw [es,ee] at SL;have hz:(bsK v).size=v.length:=Bo v
 have e1:(bsK v).extract 0 1008=bsK (v.take 1008):=by
  rw [← Yk ((bsK v).extract 0 1008),Lib.extract_data,Dn];rfl
 have e2:(bsK v).extract 1008 (bsK v).size=bsK (v.drop 1008):=by
  rw [← Yk ((bsK v).extract 1008 (bsK v).size),Lib.extract_data,Dn,hz,List.take_of_length_le (by rw [List.length_drop];omega)]
 obtain ⟨s,hs⟩:∃ s,bsK v=s:=⟨_,rfl⟩;rw [hs] at e1 e2 hz ⊢;obtain ⟨s1,hs1⟩:∃ s,bsK (v.take 1008)=s:=⟨_,rfl⟩;obtain ⟨s2,hs2⟩:∃ s,bsK (v.drop 1008)=s:=⟨_,rfl⟩;rw [hs1] at e1 SL WR;rw [hs2] at e2 HIH;obtain ⟨sp,hsp⟩:∃ sp,Kw (5,S.alloc.Ah,[s1])=sp:=⟨_,rfl⟩;rw [hsp] at SL WR;have HS1:=Ac hs1;have E1:=Ac e1;have E2:=Ac e2
 have z1:1008<s.size:=by omega
 have z2:s.size≤100000:=by omega
 have t1:=ht.has.cells2.1;have tz:=ht.has.lt;clear h ht hc hk hq hok ha h1 ha2 hm hb hpg es ee hz e1 e2 hs hs1 hs2 hsp hv hv2 hv3 IH
 go_enter Tryz.func135,Tryz.ntmps135
 go_wp2_with (first
  | (go_at_call 45;refine AL.out.mono ?_;rintro en w1 ⟨rfl,X1,hp1,ht1⟩;have P1:=Ac hp1;have U1:=Ac ht1;have M1:=Ac (HT.out.turn ht1);clear hp1 ht1 t1 tz;have t1:=M1.out.has.cells2.1;have tz:=M1.out.has.lt)
  | (go_at_call 129;refine (Et _).mono ?_;rintro e w1 ⟨rfl,rfl⟩))
 have em:(min (s.size:Int) 1008).toNat=1008:=by omega
 rw [em,E2.out]
 refine (HIH.out _ _ P1.out M1.out).mono ?_
 rintro en w2 ⟨rfl,X2,hp2,ht2⟩;have P2:=Ac hp2;have M2:=Ac (M1.out.turn ht2);have U2:=Ac (U1.out.trans ht2);clear hp2 ht2 t1 tz
 go_wp2_with fail
 rw [E1.out];clear em;have q:=Has.new w2 9 #[.string s1]
 have SSs:SS (w2.alloc (.cells #[.string s1] 9)) (some ⟨w2.heap.size,0,none⟩) 1 [s1]:=by
  refine ⟨rfl,fun _=>⟨_,_,rfl,q.lt,fun i v hv=>?_⟩⟩
  have hi:i=0:=by have:=(List.getElem?_eq_some_iff.1 hv).1;simp at this;omega
  subst hi
  have hv2:s1=v:=by simpa using hv
  subst hv2;exact q.cell 0
 refine (SL.out _ _ SSs).mono ?_
 rintro en w3 ⟨rfl,hb3⟩
 have BB:=Am (Ag w2 (.cells #[.string s1] 9)) hb3 (by simp)
 have P3:=Ac (P2.out.below BB);have M3:=Ac (M2.out.below BB);have U3:=Ac (U2.out.next BB);clear q SSs hb3 BB;have t1:=M3.out.has.cells2.1;have tz:=M3.out.has.lt
 go_wp2_with (first
  | (go_at_call 72;refine (WR.out _ _ P3.out).mono ?_;rintro en w4 ⟨rfl,X4,hp4,ht4⟩;have P4:=Ac hp4;have U4:=Ac ht4;clear hp4 ht4)
  | (go_at_call 129;refine (Et _).mono ?_;rintro e w1 ⟨rfl,rfl⟩))
 have q4:=P4.out;rw [← HS1.out] at q4;have Q4:=Ac q4;clear q4
 go_ret
 exact ⟨rfl,X4,Q4.out,U3.out.trans U4.out⟩
theorem LD0:∀ (j:Nat) {w:World} {X:List (Option Nat)} {tb p root c k:Nat} {S S0:St} {v:Ky},PT w X p S S0 c k→TM w X tb p root→c+3*(j+1)≤60000→k+5*(j+1)≤800000000→S.q+j≤57000→v.length≤1008*(j+1)→v.length≤100000 →
 Calls Tryz.prog 135 #[.pointer (some ⟨tb,0,none⟩),.string (bsK v)] w (Hw X w p (Zl j S v) S0 (c+3*(j+1)) (k+5*(j+1)) (.int .i64 S.Ah))
 | 0,w,X,tb,p,root,c,k,S,S0,v,h,ht,hc,hk,hq,hv,_=>Tn h ht (by omega) (by omega) (by omega) (by omega)
 | j+1,w,X,tb,p,root,c,k,S,S0,v,h,ht,hc,hk,hq,hv,hv3=>by
   unfold Zl
   by_cases hl:1008<v.length
   ·rw [if_pos hl]
    have hq1:=h.ok.Ah
    refine (EY0 h ht (by omega) (by omega) (by omega) hl (by omega) hv3 (fun W X' h1 h2=>LD0 j h1 h2 (by omega) (by omega) (by omega) (by rw [List.length_drop];omega) (by rw [List.length_drop];omega))).mono ?_
    rintro en w' ⟨he,X',hp,hu⟩
    exact ⟨he,X',hp.more (by omega) (by omega),hu⟩
   ·rw [if_neg hl]
    refine (Tn h ht (by omega) (by omega) (by omega) (by omega)).mono ?_
    rintro en w' ⟨he,X',hp,hu⟩
    exact ⟨he,X',hp.more (by omega) (by omega),hu⟩
def Pi (v:Ky):Ky:=0 :: v
def Jp (len n:Nat):Ky:=1 :: UInt8.ofNat (len / 256) :: UInt8.ofNat len :: Ak n
theorem AU0 {w:World} {tv:Value} {key v:Ky} (hz:2+key.length+v.length≤240) (hk:key.length≤200) :
 Calls Tryz.prog 50 #[tv,.string (bsK key),.string (bsK v)] w fun e w'=>e = .returned (.string (Af ⟨key,Pi v⟩))∧Below w.heap.size w w':=by
 have CE:=Ac (fun W=>Ih ⟨key,Pi v⟩ hk (by simp [Pi];omega) W)
 have e1:bsK (⟨key,Pi v⟩:It).k=bsK key:=rfl
 have e2:bsK (⟨key,Pi v⟩:It).r=⟨#[0]⟩++bsK v:=by
  show bsK ([0]++v)=_
  rw [← IU0];rfl
 rw [e1,e2] at CE;have z1:(bsK key).size=key.length:=Bo _;have z2:(bsK v).size=v.length:=Bo _
 generalize bsK key=K at *
 generalize bsK v=V at *
 generalize Af ⟨key,Pi v⟩=C at *
 have y1:2+K.size+V.size≤240:=by omega
 clear z1 z2 hz hk e1 e2
 go_enter Tryz.func50,Tryz.ntmps50
 go_wp2_with (first | (go_at_call 133;refine (CE.out _).mono ?_;rintro e w1 ⟨rfl,hb⟩;obtain ⟨hc,hf⟩:=Vf hb;have hz:=hb.size;(try simp at hz)))
 go_ret
 refine ⟨rfl, ?_⟩
 (repeat (first | exact Below.refl _ _ | assumption | (refine Below.setCell ?_ (by first | omega | (simp <;> omega)) _) | refine Below.drew ?_ | (refine Below.alloc ?_ (by first | omega | (simp <;> omega)) _) | (refine Am ?_ (by assumption) (by first | omega | (simp <;> omega)))))
theorem SN0 (W:World) (g n:Nat) (h:Has W g 5 #[.int .u8 1,.int .u8 (IntKind.u8.wrap ((n:Int) / 256)),.int .u8 (IntKind.u8.wrap (n:Int))]):(convert 39 9 (.slice (some ⟨g,0,none⟩) 3 3)).run Tryz.prog W = .ok (.string (bsK [1,UInt8.ofNat (n / 256),UInt8.ofNat n])) W:=by
 have e:u8s [1,UInt8.ofNat (n / 256),UInt8.ofNat n]=[.int .u8 1,.int .u8 ((n:Int) / 256 % 256),.int .u8 ((n:Int) % 256)]:=by
  simp only [u8s,u8v,List.map_cons,List.map_nil,Lc]
  rw [show ((n / 256:Nat):Int)=(n:Int) / 256 by omega];rfl
 rw [IntKind.wrap_u8',IntKind.wrap_u8'] at h
 have:=Wv (c:=3) (BS.GA0 (w:=W) (g:=g) (l:=[1,UInt8.ofNat (n / 256),UInt8.ofNat n]) (by rw [e];exact h))
 exact this
theorem CF0 {w:World} {X:List (Option Nat)} {tb p root c k:Nat} {S S0:St} {key v:Ky} (h:PT w X p S S0 c k) (ht:TM w X tb p root) (hc:c+9≤60000) (hk:k≤700000000) (hq:S.q≤50000) (hkey:key.length≤200) (hz:240<2+key.length+v.length) (hv:v.length≤3000) :
 Calls Tryz.prog 50 #[.pointer (some ⟨tb,0,none⟩),.string (bsK key),.string (bsK v)] w (Hw X w p (Zl 2 S v) S0 (c+9) (k+15) (.string (Af ⟨key,Jp v.length S.Ah⟩))):=by
 have MR:=Ac (fun W (h:PT W X p S S0 c k) (ht:TM W X tb p root)=>LD0 2 (v:=v) h ht (by omega) (by omega) (by omega) (by omega) (by omega))
 have ha:=h.ok.Ah;have hfew:=h.ok.few
 have FO:=Ac (fun W=>Jh S.Ah (by omega) W)
 have CE:=Ac (fun W=>Ih ⟨key,Jp v.length S.Ah⟩ hkey (by simp [Jp,Ak]) W)
 have e1:bsK (⟨key,Jp v.length S.Ah⟩:It).k=bsK key:=rfl
 have e2:bsK (⟨key,Jp v.length S.Ah⟩:It).r=bsK [1,UInt8.ofNat (v.length / 256),UInt8.ofNat v.length]++bsK (Ak S.Ah):=by
  rw [IU0];rfl
 rw [e1,e2] at CE;have z1:(bsK key).size=key.length:=Bo _;have z2:(bsK v).size=v.length:=Bo _
 have C3:=Ac (fun W g=>SN0 W g v.length)
 rw [← z2] at C3 CE ⊢;have HP:=Ac h;have HT:=Ac ht;obtain ⟨K,hK⟩:∃ s,bsK key=s:=⟨_,rfl⟩;obtain ⟨V,hV⟩:∃ s,bsK v=s:=⟨_,rfl⟩;obtain ⟨F,hF⟩:∃ s,bsK (Ak S.Ah)=s:=⟨_,rfl⟩;rw [hV] at C3 CE z2 MR ⊢;rw [hK] at CE z1 ⊢;rw [hF] at FO CE;obtain ⟨T,hT⟩:∃ s,bsK [1,UInt8.ofNat (V.size / 256),UInt8.ofNat V.size]=s:=⟨_,rfl⟩;rw [hT] at C3 CE
 have zT:T.size=3:=by rw [← hT,Bo];rfl
 have zF:F.size=4:=by rw [← hF,Bo];rfl
 obtain ⟨C,hC⟩:∃ s,Af ⟨key,Jp V.size S.Ah⟩=s:=⟨_,rfl⟩;rw [hC] at CE ⊢
 have y1:240<2+K.size+V.size:=by omega
 have y2:K.size≤200:=by omega
 have y3:V.size≤3000:=by omega
 have y4:T.size≤3:=by omega
 have y5:F.size≤4:=by omega
 have NB:Hid (some w.heap.size∉X):=Ac (fun hm=>by have:=h.lt _ hm;omega)
 clear h ht hc hk hq hkey hz hv ha hfew e1 e2 z1 z2 hK hV hF hT zT zF hC
 have CN:=Ac (fun W=>C3.out (W.alloc (.cells #[.int .u8 1,.int .u8 (IntKind.u8.wrap ((V.size:Int) / 256)),.int .u8 (IntKind.u8.wrap (V.size:Int))] 5)) W.heap.size (Has.new W 5 #[.int .u8 1,.int .u8 (IntKind.u8.wrap ((V.size:Int) / 256)),.int .u8 (IntKind.u8.wrap (V.size:Int))]))
 have c0:=(C3.out (w.alloc (.cells #[.int .u8 1,.int .u8 (IntKind.u8.wrap ((V.size:Int) / 256)),.int .u8 (IntKind.u8.wrap (V.size:Int))] 5)).drew w.heap.size (Has.new w 5 #[.int .u8 1,.int .u8 (IntKind.u8.wrap ((V.size:Int) / 256)),.int .u8 (IntKind.u8.wrap (V.size:Int))]).drew)
 go_enter Tryz.func50,Tryz.ntmps50
 go_wp2_with fail
 go_region_with (first
  | (go_at_call 133;refine (CE.out _).mono ?_;rintro en w4 ⟨rfl,hb4⟩;(first | (have U4:=Ac (U3.out.next hb4);have P4:=Ac (P3.out.below hb4)) | (have U4:=Ac ((U3.out.next (Ag _ _)).next hb4);have P4:=Ac ((P3.out.below (Ag _ _)).below hb4)));clear hb4)
  | (go_at_call 134;refine (FO.out _).mono ?_;rintro en w3 ⟨rfl,hb3⟩;have c2:=CN.out w3;first | (have G3:=Ac (G2.out.Aj hb3);have c3:=C3.out w3 _ G3.out;have U3:=Ac (U2.out.next hb3);have P3:=Ac (P2.out.below hb3)) | (have U3:=Ac (U2.out.next hb3);have P3:=Ac (P2.out.below hb3)) | (have U3:=Ac ((U2.out.next (Ag _ _)).next hb3);have P3:=Ac ((P2.out.below (Ag _ _)).below hb3);have G3:=Ac ((Has.new w2 5 #[.int .u8 1,.int .u8 (IntKind.u8.wrap ((V.size:Int) / 256)),.int .u8 (IntKind.u8.wrap (V.size:Int))]).Aj hb3);have c3:=C3.out w3 _ G3.out);clear hb3)
  | (go_at_call 135;first
      | (refine (MR.out _ (Zp HP.out) (HT.out.below ((Below.refl _ _).drew))).mono ?_;rintro en w2 ⟨rfl,X2,hp2,ht2⟩;have P2:=Ac hp2;have U2:=Ac (((Turn.refl X w).next ((Below.refl _ _).drew)).trans ht2);have c2:=CN.out w2;clear hp2 ht2)
      | (refine (MR.out _ ((HP.out.below (Ag _ _)).below ((Below.refl _ _).drew)) ((HT.out.below (Ag _ _)).below ((Below.refl _ _).drew))).mono ?_;rintro en w2 ⟨rfl,X2,hp2,ht2⟩;have P2:=Ac hp2;have G2:=Ac (ht2.has (Has.new w 5 #[.int .u8 1,.int .u8 (IntKind.u8.wrap ((V.size:Int) / 256)),.int .u8 (IntKind.u8.wrap (V.size:Int))]).drew NB.out);have c2:=C3.out w2 _ G2.out;have U2:=Ac (((Turn.refl X w).next (Ag _ _)).next ((Below.refl _ _).drew) |>.trans ht2);clear hp2 ht2)))
 all_goals
  go_wp2_with fail
  go_ret
  exact ⟨rfl,X2,P4.out,U4.out⟩
def VR0 (G:Nat→Pg):List Nat→Prop
 | []=>True
 | p :: r=>(∃ v,G p=(5,r.headD 0,[v]))∧VR0 G r
theorem BS0 {G G':Nat→Pg}:∀ {l:List Nat},VR0 G l→(∀ x∈l,G' x=G x)→VR0 G' l
 | [],_,_=>trivial
 | x :: r,h,hc=>⟨by obtain ⟨v,hv⟩:=h.1;exact ⟨v,(hc x List.mem_cons_self).trans hv⟩,BS0 h.2 fun y hy=>hc y (List.mem_cons_of_mem _ hy)⟩
structure EM1 (S:St) (ps:List Nat):Prop where
 link:VR0 S.G ps
 nd:ps.Nodup
 rng:∀ x∈ps,0<x∧x<S.q∧x∉S.fr
theorem EM1.free {S:St} {p:Nat} {r:List Nat} (h:EM1 S (p :: r)):EM1 (S.free p) r:=by
 obtain ⟨n1,n2⟩:=List.nodup_cons.1 h.nd
 refine ⟨BS0 h.link.2 fun x hx=>?_,n2,fun x hx=>?_⟩
 ·have h0:=(h.rng x (List.mem_cons_of_mem _ hx)).1
  show Hm (Hm S.G p _) 0 _ x=S.G x
  rw [Aq (by omega),Aq (fun e=>n1 (by rw [← e];exact hx))]
 ·have h1:=h.rng x (List.mem_cons_of_mem _ hx)
  refine ⟨h1.1,h1.2.1,fun hm=>?_⟩
  rcases List.mem_cons.1 hm with e | hm
  ·exact n1 (by rw [← e];exact hx)
  ·exact h1.2.2 hm
def Ba (S:St) (ps:List Nat):St:=ps.foldl St.free S
def GI1 (w:World) (X:List (Option Nat)) (p tb root c k:Nat) (S S0:St) (ps:List Nat) (g:Nat) (v5:Value) (wr:World):Prop :=
 ∃ dn rest X',ps=dn++rest∧rest.length=g∧v5 = .int .i64 (rest.headD 0:Nat)∧EM1 (Ba S dn) rest∧PT wr X' p (Ba S dn) S0 (c+2*dn.length) (k+4*dn.length)∧Turn X X' w wr∧TM wr X' tb p root
theorem Ql {w:World} {X:List (Option Nat)} {tb p root c k:Nat} {S S0:St} {key:Ky} {a b:UInt8} {ps:List Nat} (h:PT w X p S S0 c k) (ht:TM w X tb p root) (hc:c+2*ps.length≤60000) (hk:k+4*ps.length≤800000000) (hkey:key.length≤200) (hps:EM1 S ps) (hne:ps≠[]) :
 Calls Tryz.prog 52 #[.pointer (some ⟨tb,0,none⟩),.string (Af ⟨key,1 :: a :: b :: Ak (ps.headD 0)⟩)] w (Hw X w p (Ba S ps) S0 (c+2*ps.length) (k+4*ps.length) (.tuple #[])):=by
 have hok:=h.ok
 have RS:=Ac (fun W=>Xu ⟨key,1 :: a :: b :: Ak (ps.headD 0)⟩ hkey (by simp [Ak]) W)
 have hhd:ps.headD 0≤65536:=by
  cases hp:ps with
  | nil=>exact absurd hp hne
  | cons x r=>have:=(hps.rng x (by rw [hp];exact List.mem_cons_self)).2.1;have:=hok.few;show x≤_;omega
 have NU:=Ac (fun W=>Vs (Ak (ps.headD 0)) rfl W)
 rw [Du (by omega)] at NU
 have e1:bsK (⟨key,1 :: a :: b :: Ak (ps.headD 0)⟩:It).r=bsK (1 :: a :: b :: Ak (ps.headD 0)):=rfl;rw [e1] at RS
 have z7:(bsK (1 :: a :: b :: Ak (ps.headD 0))).size=7:=by rw [Bo];simp [Ak]
 have e3:(bsK (1 :: a :: b :: Ak (ps.headD 0))).extract 3 (bsK (1 :: a :: b :: Ak (ps.headD 0))).size=bsK (Ak (ps.headD 0)):=by
  rw [← Yk ((bsK (1 :: a :: b :: Ak (ps.headD 0))).extract 3 _),Lib.extract_data,Dn,z7];rfl
 have e0:=Vq (s:=bsK (1 :: a :: b :: Ak (ps.headD 0))) (by omega)
 have b0:∀ h0:0<(bsK (1 :: a :: b :: Ak (ps.headD 0))).size,((bsK (1 :: a :: b :: Ak (ps.headD 0)))[0]'h0).toNat=1:=fun h0=>rfl
 obtain ⟨s,hs⟩:∃ s,bsK (1 :: a :: b :: Ak (ps.headD 0))=s:=⟨_,rfl⟩;rw [hs] at RS z7 e3 e0
 have b1:∀ h0:0<s.size,(s[0]'h0).toNat=1:=by subst hs;exact b0
 obtain ⟨s4,hs4⟩:∃ s,bsK (Ak (ps.headD 0))=s:=⟨_,rfl⟩;rw [hs4] at NU e3;obtain ⟨cb,hcb⟩:∃ s,Af ⟨key,1 :: a :: b :: Ak (ps.headD 0)⟩=s:=⟨_,rfl⟩;rw [hcb] at RS ⊢;have E3:=Ac e3
 have hz0:0<s.size:=by omega
 have b2:=b1 hz0
 have e9:((s[0].toNat:Int) == 0)=false:=by rw [b2];rfl
 have z8:3≤s.size:=by omega
 have z9:(3:Int)≤(s.size:Int):=by omega
 have HP:=Ac h;have HT:=Ac ht;have HCK:=Ac (And.intro hc hk);have HPS:=Ac hps;clear h ht hc hk hkey hps hne hok hhd e1 hs b0 b1 hs4 hcb e3 b2 z7
 go_enter Tryz.func52,Tryz.ntmps52
 go_wp2_with (first
  | (go_at_call 136;refine (RS.out _).mono ?_;rintro e w1 ⟨rfl,rfl⟩))
 rw [E3.out]
 refine (NU.out _).mono ?_
 rintro en w1 ⟨rfl,hb1⟩;have P1:=Ac (HP.out.below hb1);have M1:=Ac (HT.out.below hb1);have U1:=Ac (Turn.below X hb1);clear hb1 RS NU
 go_wp2_with fail
 go_loopg [5] ps.length (fun g v5 wr=>GI1 w X p tb root c k S S0 ps g v5 wr)
 case atStart=>exact ⟨[],ps,X,rfl,rfl,by simp,HPS.out,P1.out,U1.out,M1.out⟩
 case round =>
  obtain ⟨dn,rest,X1,q1,q2,rfl,q4,q5,q6,q7⟩:=hrel
  cases rest with
  | nil =>
    have FIN:=Ac (show PT wr X1 p (Ba S ps) S0 (c+2*ps.length) (k+4*ps.length) from by rw [List.append_nil] at q1;rw [q1];exact q5)
    have UF:=Ac q6;clear q1 q2 q4 q5 q6 q7 P1 M1 U1
    go_wp2_with fail
    go_end0
    exact ⟨rfl,X1,FIN.out,UF.out⟩
  | cons x r =>
    obtain ⟨⟨v,hv⟩,hlk⟩:=q4.link;have hrx:=q4.rng x List.mem_cons_self;have hok:=q5.ok
    have hdl:dn.length+r.length+1=ps.length:=by rw [q1];simp;omega
    have PG:=Ac (fun W (h:PT W X1 p (Ba S dn) S0 (c+2*dn.length) (k+4*dn.length)) (ht:TM W X1 tb p root)=>MS0 (n:=x) h ht (by have:=HCK.out;omega) (by have:=HCK.out;omega) hrx.2.1 (hok.pg x hrx.2.1))
    rw [hv] at PG
    have FR:=Ac (fun W X (h:PT W X p (Ba S dn) S0 (c+2*dn.length) (k+4*dn.length+1))=>Zi (x:=x) h (by have:=HCK.out;omega) (by have:=HCK.out;omega) hrx.1 hrx.2.1 hrx.2.2)
    have e1:(((x :: r).headD 0:Nat):Int)=(x:Int):=rfl;rw [e1]
    have n0:((x:Int) != 0)=true:=by rw [bne_iff_ne];have:=hrx.1;omega
    have Q1:=Ac q1;have Q4:=Ac q4;have Q5:=Ac q5;have Q6:=Ac q6;have Q7:=Ac q7;have HDL:=Ac hdl;have Q2:=Ac q2;obtain ⟨L,hL⟩:∃ L,r.headD 0=L:=⟨_,rfl⟩;have HL:=Ac hL;rw [hL] at PG;clear q1 q2 q4 q5 q6 q7 hv hlk hrx hok hdl e1 hL P1 M1 U1
    go_wp2_with (first
     | (go_at_call 138;refine (PG.out _ Q5.out Q7.out).mono ?_;rintro en w2 ⟨A2,c2,X2,rfl,hp2,ht2,ho2,hq2⟩;have P2:=Ac (hp2.below (Ag _ (.cells #[.int .i64 x,.int .i64 5,.int .i64 L,.slice A2 1 c2] 116)));have M2:=Ac ((Q7.out.turn ht2).below (Ag _ (.cells #[.int .i64 x,.int .i64 5,.int .i64 L,.slice A2 1 c2] 116)));have U2:=Ac ((Q6.out.trans ht2).next (Ag _ (.cells #[.int .i64 x,.int .i64 5,.int .i64 L,.slice A2 1 c2] 116)));have Y2:=Ac (Has.new w2 116 #[.int .i64 x,.int .i64 5,.int .i64 L,.slice A2 1 c2]);have YN:=Ac (show some w2.heap.size∉X2 from fun hm=>by have:=hp2.lt _ hm;omega);have t1:=M2.out.has.cells2.1;have tz:=M2.out.has.lt;clear hp2 ht2 ho2 hq2)
     | (go_at_call 80;refine (FR.out _ _ P2.out).mono ?_;rintro en w3 ⟨rfl,X3,hp3,ht3⟩;have P3:=Ac hp3;have M3:=Ac (M2.out.turn ht3);have U3:=Ac (U2.out.trans ht3);have Y3:=Ac (ht3.has Y2.out YN.out);obtain ⟨y0,y1,y2,y3⟩:=Y3.out.cells4;have yz:=Y3.out.lt;clear hp3 ht3 t1 tz)
     | (go_at_call 129;refine (Et _).mono ?_;rintro e w1 ⟨rfl,rfl⟩))
    go_roundg r.length
    case rel =>
     have e2:Ba S (dn++[x])=(Ba S dn).free x:=by unfold Ba;rw [List.foldl_append];rfl
     refine ⟨dn++[x],r,X3,by rw [Q1.out];simp,rfl,by rw [HL.out],by rw [e2];exact Q4.out.free, ?_,U3.out,M3.out⟩
     rw [e2,List.length_append]
     exact P3.out.more (by simp;omega) (by simp;omega)
    case measure=>have:=Q2.out;simp at this;omega
theorem Ph {w:World} {tv:Value} {key v:Ky} (hkey:key.length≤200) (hv:v.length≤3000) :
 Calls Tryz.prog 52 #[tv,.string (Af ⟨key,Pi v⟩)] w fun e w'=>e = .returned (.tuple #[])∧w=w':=by
 have RS:=Ac (fun W=>Xu ⟨key,Pi v⟩ hkey (by simp [Pi];omega) W)
 have e1:bsK (⟨key,Pi v⟩:It).r=bsK (0 :: v):=rfl;rw [e1] at RS
 have z7:(bsK (0 :: v)).size=v.length+1:=by rw [Bo];simp
 have e0:=Vq (s:=bsK (0 :: v)) (by omega)
 have b0:∀ h0:0<(bsK (0 :: v)).size,((bsK (0 :: v))[0]'h0).toNat=0:=fun h0=>rfl
 obtain ⟨s,hs⟩:∃ s,bsK (0 :: v)=s:=⟨_,rfl⟩;rw [hs] at RS z7 e0
 have b1:∀ h0:0<s.size,(s[0]'h0).toNat=0:=by subst hs;exact b0
 obtain ⟨cb,hcb⟩:∃ s,Af ⟨key,Pi v⟩=s:=⟨_,rfl⟩;rw [hcb] at RS ⊢
 have hz0:0<s.size:=by omega
 have b2:=b1 hz0
 have e9:((s[0].toNat:Int) == 0)=true:=by rw [b2];rfl
 have i0:(0:Int)<(s.size:Int):=by omega
 clear e1 z7 hs b0 b1 b2 hcb hkey hv
 go_enter Tryz.func52,Tryz.ntmps52
 go_wp2_with (first | (go_at_call 136;refine (RS.out _).mono ?_;rintro e w1 ⟨rfl,rfl⟩))
 refine bodyPost_ret (results_none rfl _ _ _) rfl ?_
 exact ⟨rfl,rfl⟩
def CF1 (G:Nat→Pg):List Nat→Ky→Prop
 | [],v=>v=[]
 | p :: r,v=>∃ a b,v=a++b∧a≠[]∧G p=(5,r.headD 0,[bsK a])∧CF1 G r b
theorem CI0 {G:Nat→Pg}:∀ {l:List Nat} {v:Ky},CF1 G l v→VR0 G l
 | [],_,_=>trivial
 | x :: r,v,⟨a,b,_,_,h,hr⟩=>⟨⟨bsK a,h⟩,CI0 hr⟩
theorem Zr {G G':Nat→Pg}:∀ {l:List Nat} {v:Ky},CF1 G l v→(∀ x∈l,G' x=G x)→CF1 G' l v
 | [],_,h,_=>h
 | x :: r,v,⟨a,b,e,n,h,hr⟩,hc=>⟨a,b,e,n,(hc x List.mem_cons_self).trans h,Zr hr fun y hy=>hc y (List.mem_cons_of_mem _ hy)⟩
end Go.Proofs.YtjihboddejaelaaGreat
namespace Go.Proofs.YtjihboddejaelaaGreat
open Go.RowKit
abbrev En:=Ky×Ky
def ItV (G:Nat→Pg) (i:It) (v:Ky) (ps:List Nat):Prop :=
 (i.r=Pi v∧2+i.k.length+v.length≤240∧ps=[])∨(i.r=Jp v.length (ps.headD 0)∧240<2+i.k.length+v.length∧v.length≤3000∧ps≠[]∧CF1 G ps v)
theorem ItV.congr {G G':Nat→Pg} {i:It} {v:Ky} {ps:List Nat} (h:ItV G i v ps) (hc:∀ x∈ps,G' x=G x):ItV G' i v ps:=by
 rcases h with h | ⟨a,b,c,d,e⟩
 ·exact .inl h
 ·exact .inr ⟨a,b,c,d,Zr e hc⟩
theorem ItV.sz {G:Nat→Pg} {i:It} {v:Ky} {ps:List Nat} (h:ItV G i v ps) (hk:i.k.length≤200):szI i≤244:=by
 rcases h with ⟨a,b,_⟩ | ⟨a,b,c,d,e⟩
 ·unfold szI;rw [a];simp [Pi];omega
 ·unfold szI;rw [a];simp [Jp,Ak];omega
def Mc (G:Nat→Pg):List It→List En→List (List Nat)→Prop
 | [],[],[]=>True
 | i :: l,e :: E,ps :: P=>i.k=e.1∧ItV G i e.2 ps∧Mc G l E P
 | _,_,_=>False
theorem Mc.len {G:Nat→Pg}:∀ {l:List It} {E:List En} {P:List (List Nat)},Mc G l E P→E.length=l.length∧P.length=l.length
 | [],[],[],_=>⟨rfl,rfl⟩
 | i :: l,e :: E,ps :: P,h=>by have:=Mc.len h.2.2;simp [this.1,this.2]
theorem Mc.app {G:Nat→Pg}:∀ {l l2:List It} {E E2:List En} {P P2:List (List Nat)},Mc G l E P→Mc G l2 E2 P2→Mc G (l++l2) (E++E2) (P++P2)
 | [],_,[],_,[],_,_,k=>k
 | i :: l,_,e :: E,_,ps :: P,_,h,k=>⟨h.1,h.2.1,Mc.app h.2.2 k⟩
theorem Mc.split {G:Nat→Pg}:∀ {l l2:List It} {E:List En} {P:List (List Nat)},Mc G (l++l2) E P→∃ E1 E2 P1 P2,E=E1++E2∧P=P1++P2∧Mc G l E1 P1∧Mc G l2 E2 P2
 | [],l2,E,P,h=>⟨[],E,[],P,rfl,rfl,trivial,h⟩
 | i :: l,l2,e :: E,ps :: P,h=>by
   obtain ⟨E1,E2,P1,P2,rfl,rfl,h1,h2⟩:=Mc.split h.2.2;exact ⟨e :: E1,E2,ps :: P1,P2,rfl,rfl,⟨h.1,h.2.1,h1⟩,h2⟩
theorem Mc.congr {G G':Nat→Pg}:∀ {l:List It} {E:List En} {P:List (List Nat)},Mc G l E P→(∀ x∈P.flatten,G' x=G x)→Mc G' l E P
 | [],[],[],_,_=>trivial
 | i :: l,e :: E,ps :: P,h,hc=>⟨h.1,h.2.1.congr fun x hx=>hc x (by simp [hx]),Mc.congr h.2.2 fun x hx=>hc x (by simp at hx ⊢;exact .inr hx)⟩
theorem Mc.keys {G:Nat→Pg}:∀ {l:List It} {E:List En} {P:List (List Nat)},Mc G l E P→E.map (·.1)=l.map (·.k)
 | [],[],[],_=>rfl
 | i :: l,e :: E,ps :: P,h=>by rw [List.map_cons,List.map_cons,Mc.keys h.2.2,h.1]
def Xh (k:Ky) (E:List En):Nat:=(E.takeWhile fun e=>Op.bytesLess e.1 k).length
def isE (k:Ky) (E:List En):Bool:=(E.drop (Xh k E)).head?.any fun e=>e.1 == k
def FS1 (k:Ky) (E:List En):Ky:=((E.drop (Xh k E)).headD ([],[])).2
def RK0 (k v:Ky) (E:List En):List En:=E.take (Xh k E)++(k,v) :: E.drop (Xh k E+if isE k E then 1 else 0)
def RS0 (k:Ky) (E:List En):List En:=if isE k E then E.take (Xh k E)++E.drop (Xh k E+1) else E
theorem CQ0 {k:Ky}:∀ {E1 E2:List En},(∀ e∈E1,ltK e.1 k)→(∀ e∈E2,leK k e.1)→Xh k (E1++E2)=E1.length
 | [],[],_,_=>rfl
 | [],e :: E2,_,h2=>by
   have h3:Op.bytesLess e.1 k=false:=h2 e List.mem_cons_self;unfold Xh;rw [List.nil_append,List.takeWhile_cons,h3];rfl
 | e :: E1,E2,h1,h2=>by
   have h3:Op.bytesLess e.1 k=true:=h1 e List.mem_cons_self
   have h4:=CQ0 (k:=k) (E1:=E1) (E2:=E2) (fun e he=>h1 e (List.mem_cons_of_mem _ he)) h2
   unfold Xh at h4 ⊢;rw [List.cons_append,List.takeWhile_cons,h3,if_pos rfl,List.length_cons,h4];rfl
theorem Zu {k v:Ky} {E1 E2:List En} (h1:∀ e∈E1,ltK e.1 k) (h2:∀ e∈E2,ltK k e.1):RK0 k v (E1++E2)=E1++(k,v) :: E2∧isE k (E1++E2)=false∧RS0 k (E1++E2)=E1++E2:=by
 have hp:=CQ0 h1 (fun e he=>He (h2 e he))
 have hi:isE k (E1++E2)=false:=by
  unfold isE;rw [hp,List.drop_left]
  cases E2 with
  | nil=>rfl
  | cons e E2 =>
    have:¬ e.1=k:=fun e2=>Hq k (by have:=h2 e List.mem_cons_self;rw [e2] at this;exact this)
    simpa using this
 unfold RK0 RS0;rw [hi,hp,List.take_left];simp
theorem GZ0 {k v u:Ky} {E1 E2:List En} (h1:∀ e∈E1,ltK e.1 k) (h2:∀ e∈E2,ltK k e.1):RK0 k v (E1++(k,u) :: E2)=E1++(k,v) :: E2∧isE k (E1++(k,u) :: E2)=true∧RS0 k (E1++(k,u) :: E2)=E1++E2∧FS1 k (E1++(k,u) :: E2)=u:=by
 have hp:=CQ0 (E2:=(k,u) :: E2) h1 (fun e he=>by
  rcases List.mem_cons.1 he with rfl | he
  ·exact Qs _
  ·exact He (h2 e he))
 have hi:isE k (E1++(k,u) :: E2)=true:=by
  unfold isE;rw [hp,List.drop_left];simp
 have hd:(E1++(k,u) :: E2).drop (E1.length+1)=E2:=by
  rw [List.drop_append,List.drop_of_length_le (by omega)]
  simp
 unfold RK0 RS0 FS1;rw [hi,hp,List.take_left,if_pos rfl,if_pos rfl,hd,List.drop_left];simp
def FA1 (E:List En):Prop:=E.Pairwise fun a b=>ltK a.1 b.1
structure Mv (S S':St) (a b:List Nat):Prop where
 q:S.q≤S'.q
 pm:(b++S'.fr).Perm (a++S.fr++List.range' S.q (S'.q-S.q))
 keep:∀ x,0<x→x<S.q→x∉a→x∉S.fr→S'.G x=S.G x
theorem Mv.refl (S:St) (a:List Nat):Mv S S a a:=⟨Nat.le_refl _,by simp,fun _ _ _ _ _=>rfl⟩
section
variable {S S1 S2 S':St} {a b c a' b' r:List Nat}
theorem Mv.mem (h:Mv S S' a b) {x:Nat} (hx:x<S.q) (h1:x∉a) (h2:x∉S.fr):x∉b∧x∉S'.fr:=by
 have key:x∉b++S'.fr:=fun hm=>by
  have:=h.pm.mem_iff.1 hm
  rcases List.mem_append.1 this with h3 | h3
  ·exact (List.mem_append.1 h3).elim h1 h2
  ·have:=List.mem_range'_1.1 h3;omega
 exact ⟨fun h=>key (List.mem_append_left _ h),fun h=>key (List.mem_append_right _ h)⟩
theorem Mv.trans (h:Mv S S1 a b) (k:Mv S1 S2 b c):Mv S S2 a c:=by
 refine ⟨Nat.le_trans h.q k.q, ?_,fun x h0 hx h1 h2=>?_⟩
 ·have e:List.range' S.q (S2.q-S.q)=List.range' S.q (S1.q-S.q)++List.range' S1.q (S2.q-S1.q):=by
   have:=h.q;have:=k.q
   rw [show S2.q-S.q=(S1.q-S.q)+(S2.q-S1.q) by omega,← List.range'_append_1]
   rw [show S.q+(S1.q-S.q)=S1.q by omega]
  rw [e,← List.append_assoc];exact k.pm.trans (h.pm.append_right _)
 ·obtain ⟨m1,m2⟩:=h.mem hx h1 h2
  rw [k.keep x h0 (Nat.lt_of_lt_of_le hx h.q) m1 m2,h.keep x h0 hx h1 h2]
theorem Mv.perm (h:Mv S S' a b) (ha:a'.Perm a) (hb:b'.Perm b):Mv S S' a' b':=by
 refine ⟨h.q, ?_,fun x h0 hx h1 h2=>h.keep x h0 hx (fun hm=>h1 (ha.mem_iff.2 hm)) h2⟩
 exact (hb.append_right _).trans (h.pm.trans ((ha.symm.append_right _).append_right _))
theorem Mv.frame (h:Mv S S' a b) (r:List Nat):Mv S S' (a++r) (b++r):=by
 refine ⟨h.q, ?_,fun x h0 hx h1 h2=>h.keep x h0 hx (fun hm=>h1 (List.mem_append_left _ hm)) h2⟩
 refine List.perm_iff_count.2 fun y=>?_
 have:=h.pm.count_eq y;simp only [List.count_append] at this ⊢;omega
theorem Mv.nd (h:Mv S S' a b) (hn:(a++S.fr).Nodup) (hr:∀ x∈a++S.fr,0<x∧x<S.q):(b++S'.fr).Nodup∧(0<S.q→∀ x∈b++S'.fr,0<x∧x<S'.q):=by
 refine ⟨h.pm.nodup_iff.2 (List.nodup_append.2 ⟨hn,List.nodup_range',fun x hx y hy e=>?_⟩),fun h0 x hx=>?_⟩
 ·have:=(hr x hx).2;have:=List.mem_range'_1.1 hy;omega
 ·have h2:=h.q
  rcases List.mem_append.1 (h.pm.mem_iff.1 hx) with h3 | h3
  ·have:=hr x h3;exact ⟨this.1,by omega⟩
  ·have:=List.mem_range'_1.1 h3;omega
end
section
variable {S:St} {a:List Nat}
theorem Mv.alloc (h:EM0 S) (a:List Nat):Mv S S.alloc a (S.Ah :: a):=by
 refine ⟨h.Ah.2.2.2.1, ?_,fun x h0 hx h1 h2=>h.BT0 (by omega) (h.other hx h2).1⟩
 unfold St.Ah St.alloc
 cases hf:S.fr with
 | nil =>
   show ((S.q :: a)++[]).Perm (a++[]++List.range' S.q (S.q+1-S.q))
   rw [show S.q+1-S.q=1 by omega]
   refine List.perm_iff_count.2 fun y=>?_
   simp [List.range'_succ,List.count_append,List.count_cons]
 | cons x r =>
   show ((x :: a)++r).Perm (a++x :: r++List.range' S.q (S.q-S.q))
   rw [Nat.sub_self]
   refine List.perm_iff_count.2 fun y=>?_
   simp [List.count_append,List.count_cons];omega
theorem Mv.set {n:Nat} (hn:n∈a) (p:Pg):Mv S (S.set n p) a a:=by
 refine ⟨Nat.le_refl _, ?_,fun x h0 hx h1 h2=>Aq fun e=>h1 (e ▸ hn)⟩
 show (a++S.fr).Perm (a++S.fr++List.range' S.q (S.q-S.q))
 rw [Nat.sub_self];simp
theorem Mv.free (x:Nat) (a:List Nat):Mv S (S.free x) (x :: a) a:=by
 refine ⟨Nat.le_refl _, ?_,fun y h0 hy h1 h2=>(Aq (by omega)).trans (Aq fun e=>h1 (e ▸ List.mem_cons_self))⟩
 show (a++x :: S.fr).Perm (x :: a++S.fr++List.range' S.q (S.q-S.q))
 rw [Nat.sub_self]
 refine List.perm_iff_count.2 fun y=>?_
 simp [List.count_append,List.count_cons];omega
theorem Mv.Ba:∀ (ps:List Nat) {S:St} (a:List Nat),Mv S (Ba S ps) (ps++a) a
 | [],S,a=>Mv.refl S a
 | x :: ps,S,a=>(Mv.free x (ps++a)).trans (Mv.Ba ps a)
end
def Yp:Nat→St→Ky→List Nat
 | 0,S,_=>[S.Ah]
 | j+1,S,v=>if 1008<v.length then S.Ah :: Yp j S.alloc (v.drop 1008) else [S.Ah]
theorem RA0 (j:Nat) (S:St) (v:Ky):(Yp j S v).headD 0=S.Ah∧Yp j S v≠[]:=by
 cases j with
 | zero=>exact ⟨rfl,by simp [Yp]⟩
 | succ j=>unfold Yp;split <;> exact ⟨rfl,by simp⟩
theorem Mv.more:∀ (j:Nat) {S:St} {v:Ky},EM0 S→S.q+j≤60000→v.length≤1008*(j+1)→∀ (a:List Nat),Mv S (Zl j S v) a (Yp j S v++a)
 | 0,S,v,h,hq,hv,a=>(Mv.alloc h a).trans (Mv.set List.mem_cons_self _)
 | j+1,S,v,h,hq,hv,a=>by
   have ha:=h.Ah
   have h1:=St.Nc h (by omega)
   unfold Zl Yp
   by_cases hl:1008<v.length
   ·rw [if_pos hl,if_pos hl]
    have m:=Mv.more j (v:=v.drop 1008) h1 (by omega) (by rw [List.length_drop];omega) (S.Ah :: a)
    refine ((Mv.alloc h a).trans (m.trans (Mv.set (n:=S.Ah) (by simp) _))).perm (List.Perm.refl _) ?_
    exact (List.perm_middle (l₁:=Yp j S.alloc (v.drop 1008)) (a:=S.Ah) (l₂:=a)).symm
   ·rw [if_neg hl,if_neg hl]
    exact (Mv.alloc h a).trans (Mv.set List.mem_cons_self _)
theorem QJ0:∀ (j:Nat) {S:St} {v:Ky},EM0 S→S.q+j≤60000→v.length≤1008*(j+1)→v≠[]→CF1 (Zl j S v).G (Yp j S v) v
 | 0,S,v,h,hq,hv,hv0=>⟨v,[],by simp,hv0,Dj,rfl⟩
 | j+1,S,v,h,hq,hv,hv0=>by
   have ha:=h.Ah
   have h1:=St.Nc h (by omega)
   unfold Zl Yp
   by_cases hl:1008<v.length
   ·rw [if_pos hl,if_pos hl]
    have hlen:(v.drop 1008).length≤1008*(j+1):=by rw [List.length_drop];omega
    have m:=Mv.more j (v:=v.drop 1008) h1 (by omega) hlen [S.Ah]
    have hne0:v.drop 1008≠[]:=fun e=>by
     have h9:(v.drop 1008).length=0:=by rw [e];rfl
     rw [List.length_drop] at h9;omega
    have iv:=QJ0 j (v:=v.drop 1008) h1 (by omega) hlen hne0
    have nd:=(m.nd (List.nodup_append.2 ⟨by simp,h1.nd,fun x hx y hy e=>by
     rw [List.mem_singleton.1 hx] at e;exact ha.2.2.1 (e ▸ hy)⟩) (fun x hx=>by
     rcases List.mem_append.1 hx with hx | hx
     ·rw [List.mem_singleton.1 hx];exact ⟨ha.1,ha.2.1⟩
     ·exact h1.rng x hx)).1
    rw [List.append_assoc] at nd;have nd2:=(List.nodup_append.1 nd).2.2
    refine ⟨v.take 1008,v.drop 1008,(List.take_append_drop _ _).symm,fun e=>?_, ?_,Zr iv fun x hx=>Aq fun e=>?_⟩
    ·have h9:(v.take 1008).length=0:=by rw [e];rfl
     rw [List.length_take] at h9;omega
    ·rw [(RA0 j S.alloc (v.drop 1008)).1];exact Dj
    ·exact nd2 x hx S.Ah (by simp) e
   ·rw [if_neg hl,if_neg hl]
    exact ⟨v,[],by simp,hv0,Dj,rfl⟩
structure Qb (S:St) (root:Nat) (x:Nd) (Ds:List (List Nd)) (E:List En) (P:List (List Nat)):Prop where
 tre:Tre S.G root x Ds
 ent:Mc S.G (Ig [x] Ds) E P
 nd:(Ei [x] Ds++P.flatten).Nodup
 rng:∀ p∈Ei [x] Ds++P.flatten,0<p∧p<S.q∧p∉S.fr
theorem YI0 {G:Nat→Pg} {root:Nat}:∀ {Ds:List (List Nd)} {L:List Nd},Dwn G 0 root L Ds→(∀ p∈Ei L Ds,p≠0)→2 ^ Ds.length*L.length≤(Ei L Ds).length
 | [],L,_,_=>by show 2 ^ 0*L.length≤(L.map (·.n)).length;simp
 | D :: r,L,h,h0=>by
   have ih:=YI0 (Ds:=r) (L:=D) h.2 (fun p hp=>h0 p (List.mem_append_right _ hp))
   have h2:∀ (M:List Nd),(∀ x∈M,2≤x.its.length)→2*M.length≤(M.flatMap (·.its)).length:=by
    intro M
    induction M with
    | nil=>intro _;exact Nat.le_refl _
    | cons y M ih =>
      intro hm
      have a:=ih fun z hz=>hm z (List.mem_cons_of_mem _ hz)
      have b:=hm y List.mem_cons_self;rw [List.flatMap_cons,List.length_append,List.length_cons];omega
   have h3:=h2 L (fun x hx=>(h.1.fit x hx (h0 _ (List.mem_append_left _ (List.mem_map_of_mem hx)))).two rfl)
   rw [h.1.its,List.length_map] at h3
   have h4:(Ei L (D :: r)).length=L.length+(Ei D r).length:=by
    show (L.map (·.n)++Ei D r).length=_
    rw [List.length_append,List.length_map]
   rw [h4,List.length_cons,Nat.pow_succ,Nat.mul_assoc];have:=Nat.mul_le_mul_left (2 ^ r.length) h3;omega
theorem CH0 {S:St} {root:Nat} {x:Nd} {Ds:List (List Nd)} (h:Tre S.G root x Ds) (hr:∀ p∈Ei [x] Ds,0<p∧p<S.q) (hn:(Ei [x] Ds).Nodup) (hq:S.q≤60000):Ds.length≤15:=by
 have a:=YI0 h.1 (fun p hp=>by have:=(hr p hp).1;omega)
 have b:=Rx S.q _ hn (fun p hp=>(hr p hp).2)
 refine Classical.byContradiction fun hc=>?_
 have c:2 ^ 16≤2 ^ Ds.length:=Nat.pow_le_pow_right (by omega) (by omega)
 simp at a;omega
theorem Pnd.congr {G G':Nat→Pg} {root:Nat} {Ds:List (List Nd)} {A B:List Nd} {x:Nd} {ups:List UpR} (h:Pnd G root Ds A x B ups) (hc:∀ p∈Eh (A++x :: B) Ds ups,G' p=G p):Pnd G' root Ds A x B ups :=
 ⟨h.dn.congr (fun p hp hn=>⟨hn,hc p (List.mem_append_left _ hp)⟩),h.abv.congr (fun p hp hn=>⟨hn,hc p (List.mem_append_right _ hp)⟩) rfl rfl,h.nd,h.le⟩
open Go.BigFrame
structure UpM (W:World) (X:List (Option Nat)) (pb o un ul ui mu cu:Nat) (Au:Option Addr) (cur:Array Value) (cells:List ByteArray):Prop where
 hb:Has W pb 122 cur
 c0:cur[o]? = some (.int .i64 un)
 c1:cur[o+1]? = some (.int .i64 2)
 c2:cur[o+2]? = some (.int .i64 ul)
 c3:cur[o+3]? = some (.slice Au mu cu)
 c4:cur[o+4]? = some (.int .i64 ui)
 nb:some pb∉X
 row:W.ownsRow 0 9 1 (.slice Au mu cu) mu (strs cells)
 rx:∀ g,(Value.slice Au mu cu).ownBlock=some g→some g∉X∧g≠pb
section
variable {W W':World} {X X':List (Option Nat)} {pb o un ul ui mu cu:Nat} {Au:Option Addr} {cur:Array Value} {cells:List ByteArray}
theorem UpM.turn (h:UpM W X pb o un ul ui mu cu Au cur cells) (ht:Turn X X' W W'):UpM W' X' pb o un ul ui mu cu Au cur cells :=
 ⟨ht.has h.hb h.nb,h.c0,h.c1,h.c2,h.c3,h.c4,ht.out h.nb h.hb.lt,Bf h.row fun g hg=>ht.block g (h.row.lt g hg).2 (h.rx g hg).1,fun g hg=>⟨ht.out (h.rx g hg).1 (h.row.lt g hg).2,(h.rx g hg).2⟩⟩
theorem UpM.below (h:UpM W X pb o un ul ui mu cu Au cur cells) (hb:Below W.heap.size W W'):UpM W' X pb o un ul ui mu cu Au cur cells:=h.turn (Turn.below X hb)
theorem UpM.set (h:UpM W X pb o un ul ui mu cu Au cur cells) {g:Nat} (h1:pb≠g) (h2:∀ k,(Value.slice Au mu cu).ownBlock=some k→k≠g) (i:Nat) (u:Value):UpM (W.setCell ⟨g,i,none⟩ u) X pb o un ul ui mu cu Au cur cells :=
 ⟨h.hb.far (p:=⟨g,i,none⟩) h1 u,h.c0,h.c1,h.c2,h.c3,h.c4,h.nb,Bf h.row fun k hk=>Below.heap_setCell _ _ _ _ (h2 k hk),h.rx⟩
theorem UpM.ss (h:UpM W X pb o un ul ui mu cu Au cur cells):SS W Au mu cells:=SS.Dv h.row
theorem UpM.at5 (h:UpM W X pb o un ul ui mu cu Au cur cells):W.cell? ⟨pb,o,none⟩=some (.int .i64 un)∧W.cell? ⟨pb,o+1,none⟩=some (.int .i64 2)∧W.cell? ⟨pb,o+2,none⟩=some (.int .i64 ul)∧W.cell? ⟨pb,o+3,none⟩=some (.slice Au mu cu)∧W.cell? ⟨pb,o+4,none⟩=some (.int .i64 ui) :=
 ⟨(h.hb.cell _).trans h.c0,(h.hb.cell _).trans h.c1,(h.hb.cell _).trans h.c2,(h.hb.cell _).trans h.c3,(h.hb.cell _).trans h.c4⟩
end
structure JnM (W:World) (X:List (Option Nat)) (b7 b8 n1 n2 kd l1 l2 m1 m2 c1 c2:Nat) (A1 A2:Option Addr) (s1 s2:List ByteArray):Prop where
 z7:Has W b7 116 #[.int .i64 n1,.int .i64 kd,.int .i64 l1,.slice A1 m1 c1]
 z8:Has W b8 116 #[.int .i64 n2,.int .i64 kd,.int .i64 l2,.slice A2 m2 c2]
 o7:some b7∉X
 o8:some b8∉X
 d:b7<b8
 r1:SS W A1 m1 s1
 r2:SS W A2 m2 s2
 x1:∀ a,A1=some a→some a.block∉X∧a.block<W.heap.size∧a.block≠b7∧a.block≠b8
 x2:∀ a,A2=some a→some a.block∉X∧a.block<W.heap.size∧a.block≠b7∧a.block≠b8
theorem SS.stay {w w':World} {A:Option Addr} {n:Nat} {l:List ByteArray} (h:SS w A n l) (hz:w.heap.size≤w'.heap.size) (hx:∀ a,A=some a→w'.heap[a.block]? = w.heap[a.block]?):SS w' A n l :=
 ⟨h.1,fun hn=>by
   obtain ⟨b,off,hA,hl,hc⟩:=h.2 hn
   refine ⟨b,off,hA,Nat.lt_of_lt_of_le hl hz,fun i v hv=>?_⟩
   have e:=hx _ hA;rw [← hc i v hv];unfold World.cell?
   simp only [e]⟩
section
variable {W W':World} {X X':List (Option Nat)} {b7 b8 n1 n2 kd l1 l2 m1 m2 c1 c2:Nat} {A1 A2:Option Addr} {s1 s2:List ByteArray}
theorem JnM.turn (h:JnM W X b7 b8 n1 n2 kd l1 l2 m1 m2 c1 c2 A1 A2 s1 s2) (ht:Turn X X' W W'):JnM W' X' b7 b8 n1 n2 kd l1 l2 m1 m2 c1 c2 A1 A2 s1 s2 :=
 ⟨ht.has h.z7 h.o7,ht.has h.z8 h.o8,ht.out h.o7 h.z7.lt,ht.out h.o8 h.z8.lt,h.d,h.r1.stay ht.size fun a e=>ht.block _ (h.x1 a e).2.1 (h.x1 a e).1,h.r2.stay ht.size fun a e=>ht.block _ (h.x2 a e).2.1 (h.x2 a e).1,
   fun a e=>⟨ht.out (h.x1 a e).1 (h.x1 a e).2.1,Nat.lt_of_lt_of_le (h.x1 a e).2.1 ht.size,(h.x1 a e).2.2⟩,fun a e=>⟨ht.out (h.x2 a e).1 (h.x2 a e).2.1,Nat.lt_of_lt_of_le (h.x2 a e).2.1 ht.size,(h.x2 a e).2.2⟩⟩
end
theorem Bl {W:World} {g b:Nat} {t:TypeId} {cs:Array Value} (h:Has W g t cs) (hg:g≠b) (u0 u1 u2 u3:Value):Has ((((W.setCell ⟨b,0,none⟩ u0).setCell ⟨b,1,none⟩ u1).setCell ⟨b,2,none⟩ u2).setCell ⟨b,3,none⟩ u3) g t cs :=
 (((h.far (p:=⟨b,0,none⟩) hg u0).far (p:=⟨b,1,none⟩) hg u1).far (p:=⟨b,2,none⟩) hg u2).far (p:=⟨b,3,none⟩) hg u3
theorem Fq {W:World} {b:Nat} {t:TypeId} {z0 z1 z2 z3:Value} (h:Has W b t #[z0,z1,z2,z3]) (u0 u1 u2 u3:Value):Has ((((W.setCell ⟨b,0,none⟩ u0).setCell ⟨b,1,none⟩ u1).setCell ⟨b,2,none⟩ u2).setCell ⟨b,3,none⟩ u3) b t #[u0,u1,u2,u3] :=
 (((h.set 0 u0).set 1 u1).set 2 u2).set 3 u3
theorem UpM.Ij {W:World} {X:List (Option Nat)} {pb o un ul ui mu cu b:Nat} {Au:Option Addr} {cur:Array Value} {cells:List ByteArray} (h:UpM W X pb o un ul ui mu cu Au cur cells) (h1:pb≠b) (h2:∀ k,(Value.slice Au mu cu).ownBlock=some k→k≠b) (u0 u1 u2 u3:Value):UpM ((((W.setCell ⟨b,0,none⟩ u0).setCell ⟨b,1,none⟩ u1).setCell ⟨b,2,none⟩ u2).setCell ⟨b,3,none⟩ u3) X pb o un ul ui mu cu Au cur cells :=
 (((h.set h1 h2 0 u0).set h1 h2 1 u1).set h1 h2 2 u2).set h1 h2 3 u3
theorem SS.Ij {W:World} {b n:Nat} {A:Option Addr} {l:List ByteArray} (h:SS W A n l) (hx:∀ a,A=some a→a.block≠b) (u0 u1 u2 u3:Value):SS ((((W.setCell ⟨b,0,none⟩ u0).setCell ⟨b,1,none⟩ u1).setCell ⟨b,2,none⟩ u2).setCell ⟨b,3,none⟩ u3) A n l :=
 h.stay (by simp) fun a e=>by
  have hb:=hx a e;rw [Below.heap_setCell _ _ _ _ hb,Below.heap_setCell _ _ _ _ hb,Below.heap_setCell _ _ _ _ hb,Below.heap_setCell _ _ _ _ hb]
theorem SS.set {W:World} {b n:Nat} {A:Option Addr} {l:List ByteArray} (h:SS W A n l) (hx:∀ a,A=some a→a.block≠b) (i:Nat) (u:Value):SS (W.setCell ⟨b,i,none⟩ u) A n l :=
 h.stay (by simp) fun a e=>Below.heap_setCell _ _ _ _ (hx a e)
theorem SS.src {W:World} {A:Option Addr} {n c:Nat} {l:List ByteArray} (h:SS W A n l):Src Tryz.prog 1 44 (.slice A n c) n (strs l) W:=by
 cases A with
 | none =>
   obtain rfl:n=0:=by
    cases n with
    | zero=>rfl
    | succ n=>obtain ⟨b,off,e,_⟩:=h.2 (Nat.succ_pos _);cases e
   have:l=[]:=List.length_eq_zero_iff.1 h.1;subst this;exact Src.ofNil _ Tryz.underlying44 c
 | some a =>
   refine Src.ofSlice _ Tryz.underlying44 a n c (strs l) (by rw [Dt,h.1];omega) (fun j u hu=>?_) (GX0 l)
   have hj:j<n:=by have:=(List.getElem?_eq_some_iff.1 hu).1;rw [Dt,h.1] at this;exact this
   obtain ⟨b,off,e,_,hc⟩:=h.2 (by omega)
   cases e
   rw [addr_add];unfold strs at hu;rw [List.getElem?_map] at hu
   cases hl:l[j]? with
   | none=>rw [hl] at hu;cases hu
   | some v=>rw [hl] at hu;have e2:Value.string v=u:=Option.some.inj hu;rw [← e2];exact hc j v hl
theorem JnM.set {W:World} {X:List (Option Nat)} {b7 b8 n1 n2 kd l1 l2 m1 m2 c1 c2 g:Nat} {A1 A2:Option Addr} {s1 s2:List ByteArray} (h:JnM W X b7 b8 n1 n2 kd l1 l2 m1 m2 c1 c2 A1 A2 s1 s2) (h7:b7≠g) (h8:b8≠g) (h1:∀ a,A1=some a→a.block≠g) (h2:∀ a,A2=some a→a.block≠g) (i:Nat) (u:Value):JnM (W.setCell ⟨g,i,none⟩ u) X b7 b8 n1 n2 kd l1 l2 m1 m2 c1 c2 A1 A2 s1 s2 :=
 ⟨h.z7.far (p:=⟨g,i,none⟩) h7 u,h.z8.far (p:=⟨g,i,none⟩) h8 u,h.o7,h.o8,h.d,h.r1.set h1 i u,h.r2.set h2 i u,fun a e=>by simpa using h.x1 a e,fun a e=>by simpa using h.x2 a e⟩
structure Jx (w0 W:World) (X0 X:List (Option Nat)) (z p tb root c k pb o un ul ui mu cu b7 b8 n1 n2 kd l1 l2 m1 m2 c1 c2:Nat) (Au A1 A2:Option Addr) (cur:Array Value) (cells s1 s2:List ByteArray) (S S0:St):Prop where
 pt:PT W X p S S0 c k
 tm:TM W X tb p root
 up:UpM W X pb o un ul ui mu cu Au cur cells
 tu:Turn X0 X w0 W
 jn:JnM W X b7 b8 n1 n2 kd l1 l2 m1 m2 c1 c2 A1 A2 s1 s2
 zt:tb<z
 zp:pb<z
 z8:b8<z
 zu:∀ g,(Value.slice Au mu cu).ownBlock=some g→g<z
 zr:∀ g,(Value.slice Au mu cu).ownBlock=some g→g<b7
 z1:∀ a,A1=some a→a.block<z
 z2:∀ a,A2=some a→a.block<z
 z0:w0.heap.size≤z
 zz:z≤W.heap.size
section
variable {w0 W W':World} {X0 X X':List (Option Nat)} {z p tb root c k c' k' pb o un ul ui mu cu b7 b8 n1 n2 kd l1 l2 m1 m2 c1 c2:Nat} {Au A1 A2:Option Addr} {cur:Array Value} {cells s1 s2:List ByteArray} {S S' S0:St}
theorem Jx.turn (h:Jx w0 W X0 X z p tb root c k pb o un ul ui mu cu b7 b8 n1 n2 kd l1 l2 m1 m2 c1 c2 Au A1 A2 cur cells s1 s2 S S0) (ht:Turn X X' W W') (hp:PT W' X' p S' S0 c' k'):Jx w0 W' X0 X' z p tb root c' k' pb o un ul ui mu cu b7 b8 n1 n2 kd l1 l2 m1 m2 c1 c2 Au A1 A2 cur cells s1 s2 S' S0 :=
 ⟨hp,h.tm.turn ht,h.up.turn ht,h.tu.trans ht,h.jn.turn ht,h.zt,h.zp,h.z8,h.zu,h.zr,h.z1,h.z2,h.z0,Nat.le_trans h.zz ht.size⟩
theorem Jx.below (h:Jx w0 W X0 X z p tb root c k pb o un ul ui mu cu b7 b8 n1 n2 kd l1 l2 m1 m2 c1 c2 Au A1 A2 cur cells s1 s2 S S0) (hb:Below W.heap.size W W'):Jx w0 W' X0 X z p tb root c k pb o un ul ui mu cu b7 b8 n1 n2 kd l1 l2 m1 m2 c1 c2 Au A1 A2 cur cells s1 s2 S S0 :=
 h.turn (Turn.below X hb) (h.pt.below hb)
theorem Jx.set (h:Jx w0 W X0 X z p tb root c k pb o un ul ui mu cu b7 b8 n1 n2 kd l1 l2 m1 m2 c1 c2 Au A1 A2 cur cells s1 s2 S S0) {g:Nat} (hg:z≤g) (hX:some g∉X) (i:Nat) (v:Value):Jx w0 (W.setCell ⟨g,i,none⟩ v) X0 X z p tb root c k pb o un ul ui mu cu b7 b8 n1 n2 kd l1 l2 m1 m2 c1 c2 Au A1 A2 cur cells s1 s2 S S0 :=
 ⟨h.pt.set hX i v,h.tm.set (by have:=h.zt;omega) i v,h.up.set (by have:=h.zp;omega) (fun q hq=>by have:=h.zu q hq;omega) i v,h.tu.Di (Nat.le_trans h.z0 hg) i v,
   h.jn.set (by have:=h.jn.d;have:=h.z8;omega) (by have:=h.z8;omega) (fun a e=>by have:=h.z1 a e;omega) (fun a e=>by have:=h.z2 a e;omega) i v,h.zt,h.zp,h.z8,h.zu,h.zr,h.z1,h.z2,h.z0,by simpa using h.zz⟩
theorem Jx.grown (h:Jx w0 W X0 X z p tb root c k pb o un ul ui mu cu b7 b8 n1 n2 kd l1 l2 m1 m2 c1 c2 Au A1 A2 cur cells s1 s2 S S0) {r:Option Nat} (hg:W.grownBy W' r) (hr:∀ g,r=some g→z≤g∧some g∉X):Jx w0 W' X0 X z p tb root c k pb o un ul ui mu cu b7 b8 n1 n2 kd l1 l2 m1 m2 c1 c2 Au A1 A2 cur cells s1 s2 S S0:=by
 have q:∀ g,g<W.heap.size→g<z→W'.heap[g]? = W.heap[g]? := fun g h1 h2=>hg.block g h1 (fun e=>by have:=(hr g e.symm).1;omega)
 have hz:=h.zz
 refine ⟨h.pt.grown hg (fun g e=>(hr g e).2),⟨(q _ h.tm.has.lt h.zt).trans h.tm.has,h.tm.out⟩,⟨(q _ h.up.hb.lt h.zp).trans h.up.hb,h.up.c0,h.up.c1,h.up.c2,h.up.c3,h.up.c4,h.up.nb,Bf h.up.row fun g e=>q g (h.up.row.lt g e).2 (h.zu g e),h.up.rx⟩,h.tu.HC0 hg (fun g e=>Nat.le_trans h.z0 (hr g e).1),
  ⟨(q _ h.jn.z7.lt (Nat.lt_trans h.jn.d h.z8)).trans h.jn.z7,(q _ h.jn.z8.lt h.z8).trans h.jn.z8,h.jn.o7,h.jn.o8,h.jn.d,h.jn.r1.stay hg.size fun a e=>q _ (h.jn.x1 a e).2.1 (h.z1 a e),h.jn.r2.stay hg.size fun a e=>q _ (h.jn.x2 a e).2.1 (h.z2 a e),fun a e=>⟨(h.jn.x1 a e).1,Nat.lt_of_lt_of_le (h.jn.x1 a e).2.1 hg.size,(h.jn.x1 a e).2.2⟩,fun a e=>⟨(h.jn.x2 a e).1,Nat.lt_of_lt_of_le (h.jn.x2 a e).2.1 hg.size,(h.jn.x2 a e).2.2⟩⟩,h.zt,h.zp,h.z8,h.zu,h.zr,h.z1,h.z2,h.z0,Nat.le_trans hz hg.size⟩
end
structure Nw (W:World) (X:List (Option Nat)) (z b n kd l m c:Nat) (A:Option Addr) (bs:List ByteArray):Prop where
 zb:z≤b
 hz:Has W b 116 #[.int .i64 n,.int .i64 kd,.int .i64 l,.slice A m c]
 nx:some b∉X
 row:W.ownsRow z 9 1 (.slice A m c) m (strs bs)
 rx:∀ g,(Value.slice A m c).ownBlock=some g→some g∉X∧g≠b
section
variable {W W':World} {X X':List (Option Nat)} {z b n kd l m c:Nat} {A:Option Addr} {bs:List ByteArray}
theorem Nw.turn (h:Nw W X z b n kd l m c A bs) (ht:Turn X X' W W'):Nw W' X' z b n kd l m c A bs :=
 ⟨h.zb,ht.has h.hz h.nx,ht.out h.nx h.hz.lt,Bf h.row fun g hg=>ht.block g (h.row.lt g hg).2 (h.rx g hg).1,fun g hg=>⟨ht.out (h.rx g hg).1 (h.row.lt g hg).2,(h.rx g hg).2⟩⟩
theorem Nw.below (h:Nw W X z b n kd l m c A bs) (hb:Below W.heap.size W W'):Nw W' X z b n kd l m c A bs:=h.turn (Turn.below X hb)
theorem Nw.far (h:Nw W X z b n kd l m c A bs) {g:Nat} (h1:b≠g) (h2:∀ k,(Value.slice A m c).ownBlock=some k→k≠g) (i:Nat) (u:Value):Nw (W.setCell ⟨g,i,none⟩ u) X z b n kd l m c A bs :=
 ⟨h.zb,h.hz.far (p:=⟨g,i,none⟩) h1 u,h.nx,Bf h.row fun k hk=>Below.heap_setCell _ _ _ _ (h2 k hk),h.rx⟩
theorem Nw.link (h:Nw W X z b n kd l m c A bs) (l':Nat):Nw (W.setCell ⟨b,2,none⟩ (.int .i64 l')) X z b n kd l' m c A bs :=
 ⟨h.zb,h.hz.set 2 _,h.nx,Bf h.row fun k hk=>Below.heap_setCell _ _ _ _ (h.rx k hk).2,h.rx⟩
theorem Nw.num (h:Nw W X z b n kd l m c A bs) (n':Nat):Nw (W.setCell ⟨b,0,none⟩ (.int .i64 n')) X z b n' kd l m c A bs :=
 ⟨h.zb,h.hz.set 0 _,h.nx,Bf h.row fun k hk=>Below.heap_setCell _ _ _ _ (h.rx k hk).2,h.rx⟩
theorem Nw.ss (h:Nw W X z b n kd l m c A bs):SS W A m bs:=SS.Dv h.row
end
def Tq (w:World) (X:List (Option Nat)) (p pb o un ul ui:Nat) (vA:Value) (cur:Array Value) (S' S0:St) (c' k':Nat) (cells':List ByteArray) (en:Ending) (w':World):Prop :=
 en = .returned (.tuple #[])∧∃ X' Au' cu',PT w' X' p S' S0 c' k'∧Turn (some pb :: vA.ownBlock :: X) (some pb :: (Value.slice Au' cells'.length cu').ownBlock :: X') w w' ∧
  UpM w' X' pb o un ul ui cells'.length cu' Au' (cur.setIfInBounds (o+3) (.slice Au' cells'.length cu')) cells'∧∀ g,(Value.slice Au' cells'.length cu').ownBlock=some g→vA.ownBlock=some g∨w.heap.size≤g
theorem PF0 {w:World} {base n c g:Nat} {xs:List Value} {te:TypeId} (h:w.ownsRow base te 1 (.slice (some ⟨g,0,none⟩) n c) n xs) (u:Nat) (x:Value):(w.setCell ⟨g,u,none⟩ x).ownsRow base te 1 (.slice (some ⟨g,0,none⟩) n c) n (xs.set u x):=by
 refine ⟨by rw [List.length_set];exact h.1, ?_⟩
 rcases h.2 with ⟨q,_⟩ | ⟨g',cap,cur,hv,hb,hg,h1,h2,h3,h4⟩
 ·cases q
 ·have e1:g=g'∧c=cap:=by
   injection hv with e1 _ e3
   injection e1 with e1
   injection e1 with e1
   exact ⟨e1,e3⟩
  obtain ⟨rfl,rfl⟩:=e1;have H:Has w g te cur:=hg
  refine .inr ⟨g,c,cur.setIfInBounds u x,rfl,hb,H.set u x,h1,h2,by simpa using h3, ?_⟩
  rw [Array.toList_setIfInBounds,List.take_set,h4]
theorem Xb {w:World} {b n c m:Nat} {e:TypeId} {A:Option Addr} {xs:List Value} (h:w.ownsRow b e 1 (.slice A m c) n xs):m=n∧n≤c∧c≤9223372036854775807:=by
 rcases h.2 with ⟨q,rfl⟩ | ⟨g,cap,cur,hv,_,_,h1,h2,_⟩
 ·injection q with _ q1 q2
  exact ⟨q1,Nat.zero_le _,by omega⟩
 ·injection hv with _ q1 q2
  subst q2
  exact ⟨q1,h1,by unfold maxLen at h2;omega⟩
theorem UR0 {w:World} {a b n:Nat} {e:TypeId} {v:Value} {xs:List Value} (h:w.ownsRow a e 1 v n xs) (hb:∀ g,v.ownBlock=some g→b≤g):w.ownsRow b e 1 v n xs:=by
 refine ⟨h.1, ?_⟩
 rcases h.2 with q | ⟨g,cap,cur,hv,_,q⟩
 ·exact .inl q
 ·exact .inr ⟨g,cap,cur,hv,hb g (by rw [hv];rfl),q⟩
theorem Turn.loc {w0 w w':World} {X0 X Y Y' X':List (Option Nat)} (h:Turn X0 X w0 w) (k:Turn Y Y' w w') (hY:∀ g,some g∈Y→some g∈X∨w0.heap.size≤g) (hX:∀ g,some g∈X'→some g∈Y'):Turn X0 X' w0 w':=by
 refine ⟨k.os.trans h.os,k.tape.trans h.tape,k.output.trans h.output,Nat.le_trans h.size k.size,fun i hi hn=>?_,fun i hi=>?_⟩
 ·refine (k.block i (Nat.lt_of_lt_of_le hi h.size) fun hm=>?_).trans (h.block i hi hn)
  rcases hY i hm with h1 | h1
  ·rcases h.new i h1 with h2 | h2
   ·exact hn h2
   ·omega
  ·omega
 ·rcases k.new i (hX i hi) with h1 | h1
  ·rcases hY i h1 with h2 | h2
   ·exact h.new i h2
   ·exact .inr h2
  ·exact .inr (Nat.le_trans h.size h1)
theorem Vz {X X':List (Option Nat)} {w W W':World} {pb:Nat} {vA v':Value} (h:Turn X X' w W) (hg:W.grownBy W' vA.ownBlock) (hat:∀ g,v'.ownBlock=some g→vA.ownBlock=some g∨W.heap.size≤g) (i:Nat) (u:Value):Turn (some pb :: vA.ownBlock :: X) (some pb :: v'.ownBlock :: X') w (W'.setCell ⟨pb,i,none⟩ u):=by
 refine ⟨hg.os.trans h.os,hg.tape.trans h.tape,hg.output.trans h.output,by have:=h.size;have:=hg.size;simp;omega,fun k hk hn=>?_,fun k hk=>?_⟩
 ·have n1:k≠pb:=fun e=>hn (by rw [e];exact List.mem_cons_self)
  have n2:some k≠vA.ownBlock:=fun e=>hn (by rw [e];exact List.mem_cons_of_mem _ List.mem_cons_self)
  exact (Below.heap_setCell _ _ _ _ n1).trans ((hg.block k (Nat.lt_of_lt_of_le hk h.size) n2).trans (h.block k hk fun hm=>hn (List.mem_cons_of_mem _ (List.mem_cons_of_mem _ hm))))
 ·rcases List.mem_cons.1 hk with e | hk
  ·exact .inl (by rw [e];exact List.mem_cons_self)
  ·rcases List.mem_cons.1 hk with e | hk
   ·rcases hat k e.symm with e2 | e2
    ·exact .inl (by rw [← e2];exact List.mem_cons_of_mem _ List.mem_cons_self)
    ·exact .inr (Nat.le_trans h.size e2)
   ·rcases h.new k hk with e2 | e2
    ·exact .inl (List.mem_cons_of_mem _ (List.mem_cons_of_mem _ e2))
    ·exact .inr e2
theorem IK0 {cur:Array Value} {i:Nat} {v:Value} (h:cur[i]? = some v):cur.setIfInBounds i v=cur:=by
 refine Array.ext_getElem? fun j=>?_
 rw [Array.getElem?_setIfInBounds]
 by_cases e:i=j
 ·subst e
  rw [if_pos rfl,h,if_pos];exact (Array.getElem?_eq_some_iff.1 h).1
 ·rw [if_neg e]
theorem PT0 {X X':List (Option Nat)} {w W W':World} {pb:Nat} {vA:Value} (h:Turn X X' w W) (hg:W.grownBy W' vA.ownBlock):Turn (some pb :: vA.ownBlock :: X) (some pb :: vA.ownBlock :: X') w W':=by
 refine ⟨hg.os.trans h.os,hg.tape.trans h.tape,hg.output.trans h.output,Nat.le_trans h.size hg.size,fun k hk hn=>?_,fun k hk=>?_⟩
 ·have n2:some k≠vA.ownBlock:=fun e=>hn (by rw [e];exact List.mem_cons_of_mem _ List.mem_cons_self)
  exact (hg.block k (Nat.lt_of_lt_of_le hk h.size) n2).trans (h.block k hk fun hm=>hn (List.mem_cons_of_mem _ (List.mem_cons_of_mem _ hm)))
 ·rcases List.mem_cons.1 hk with e | hk
  ·exact .inl (by rw [e];exact List.mem_cons_self)
  ·rcases List.mem_cons.1 hk with e | hk
   ·exact .inl (by rw [e];exact List.mem_cons_of_mem _ List.mem_cons_self)
   ·rcases h.new k hk with e2 | e2
    ·exact .inl (List.mem_cons_of_mem _ (List.mem_cons_of_mem _ e2))
    ·exact .inr e2
theorem Nw.app {W W':World} {X:List (Option Nat)} {z b n kd l m c m' c':Nat} {A A':Option Addr} {xs ys:List ByteArray} (h:Nw W X z b n kd l m c A xs) (hX:∀ g,some g∈X→g<W.heap.size) (hm:m'=(xs++ys).length) (ho:W'.ownsRow z 9 1 (.slice A' m' c') m' (strs xs++strs ys)) (hg:W.grownBy W' (Value.slice A m c).ownBlock)
 (hat:(Value.slice A' m' c').ownBlock=(Value.slice A m c).ownBlock∨(Value.slice A' m' c').ownBlock=some W.heap.size):Nw (W'.setCell ⟨b,3,none⟩ (.slice A' (xs++ys).length c')) X z b n kd l (xs++ys).length c' A' (xs++ys):=by
 subst hm
 have e2:strs (xs++ys)=strs xs++strs ys:=by unfold strs;exact List.map_append
 have e3:∀ g,(Value.slice A' (xs++ys).length c').ownBlock=some g→some g∉X∧g≠b:=fun g hg=>by
  rcases hat with e | e
  ·exact h.rx g (by rw [← e];exact hg)
  ·have e5:g=W.heap.size:=Option.some.inj (hg.symm.trans e)
   exact ⟨fun hm=>by have:=hX g hm;omega,by have:=h.hz.lt;omega⟩
 have hh:Has W' b 116 #[.int .i64 n,.int .i64 kd,.int .i64 l,.slice A m c]:=(hg.block b h.hz.lt (fun e=>(h.rx b e.symm).2 rfl)).trans h.hz
 exact ⟨h.zb,hh.set 3 _,h.nx,by rw [e2];exact Bf ho (fun g hg=>Below.heap_setCell _ _ _ _ (e3 g hg).2),e3⟩
theorem Nw.FA0 {W W':World} {X:List (Option Nat)} {z b n kd l m c:Nat} {A:Option Addr} {xs:List ByteArray} (h:Nw W X z b n kd l m c A xs) (hg:W.grownBy W' (Value.slice A m c).ownBlock):Has W' b 116 #[.int .i64 n,.int .i64 kd,.int .i64 l,.slice A m c]:=(hg.block b h.hz.lt (fun e=>(h.rx b e.symm).2 rfl)).trans h.hz
theorem VK0 {w:World} {base n c g:Nat} {te:TypeId} {xs:List Value} (h:w.ownsRow base te 1 (.slice (some ⟨g,0,none⟩) n c) n xs):∃ cur,Has w g te cur:=by
 rcases h.2 with ⟨q,_⟩ | ⟨g',cap,cur,hv,_,hg,_⟩
 ·cases q
 ·injection hv with e1 _ _
  injection e1 with e1
  injection e1 with e1
  subst e1;exact ⟨cur,hg⟩
theorem AL1 {w:World} {base m n c:Nat} {te:TypeId} {A:Option Addr} {xs:List Value} (h:w.ownsRow base te 1 (.slice A m c) n xs) (h0:0<n):∃ g,A=some ⟨g,0,none⟩:=by
 rcases h.2 with ⟨q,h1⟩ | ⟨g,cap,cur,hv,_⟩
 ·omega
 ·injection hv with e1 _ _;exact ⟨g,e1⟩
theorem HA0 (l:List ByteArray) (u:Nat) (s:ByteArray):(strs l).set u (.string s)=strs (l.set u s):=by
 unfold strs;rw [List.map_set]
theorem Nw.mk2 {W:World} {X:List (Option Nat)} {z b n kd l m c:Nat} {A:Option Addr} {bs:List ByteArray} {B:Nat} (hz:z≤b) (hn:some b∉X) (h:Has W b 116 #[.int .i64 n,.int .i64 kd,.int .i64 l,.slice A m c]) (ho:W.ownsRow B 9 1 (.slice A m c) m (strs bs)) (h1:z≤B) (hX:∀ g,some g∈X→g<B) (h2:∀ g,(Value.slice A m c).ownBlock=some g→g≠b):Nw W X z b n kd l m c A bs :=
 ⟨hz,h,hn,own_base ho h1,fun g hg=>⟨fun hm=>by have:=hX g hm;have:=(ho.lt g hg).1;omega,h2 g hg⟩⟩
theorem Fz (l:List It):5*l.length≤Ai l:=by
 induction l with
 | nil=>exact Nat.le_refl _
 | cons i l ih=>rw [Df,List.length_cons];unfold szI;omega
theorem getD_drop {l:List It} {k:Nat} {y:It} {Y:List It} (h:l.drop k=y :: Y):l.getD k ⟨[],[]⟩=y∧k<l.length∧Y=l.drop (k+1):=by
 have hk:k<l.length:=by
  refine Classical.byContradiction fun hn=>?_
  rw [List.drop_of_length_le (by omega)] at h;cases h
 rw [← List.getElem_cons_drop (h:=hk)] at h
 injection h with h1 h2
 exact ⟨by rw [List.getD_eq_getElem?_getD,List.getElem?_eq_getElem hk];exact h1,hk,h2.symm⟩
theorem Px {w:World} {n l m c:Nat} {A:Option Addr} {its X Y:List It} {y:It} (tv:Value) (h:SS w A m (its.map Af)) (hw:LX0 its) (hu:1012<Ai its) (hu2:Ai its≤1404) (hsz:∀ i∈its,szI i≤244) (hmc:m≤c) (hc:c≤9223372036854775807)
 (eX:its.take (spl true its)=X) (eY:its.drop (spl true its)=y :: Y) :
 Calls Tryz.prog 143 #[tv,.agg #[.int .i64 n,.int .i64 1,.int .i64 l,.slice A m c]] w (Vy w n 1 l l (bsK y.k) (X.map Af) ((y :: Y).map Af)):=by
 have hl:its.length=m:=by have:=h.1;simpa using this
 have h5:=Fz its;obtain ⟨k,hk,hle,_⟩:=IC0 hu hu2 hsz;have es:spl true its=cutAt (Ai its / 2) its:=rfl;rw [es] at eX eY;obtain ⟨e1,e2,e3⟩:=getD_drop eY
 refine (BR0 tv h hw (by omega) hmc hc (by omega) (by omega) (by omega)).mono ?_
 rintro e w' ⟨va,vb,he,ha,hb,hab,hbe⟩;rw [eX] at ha;rw [eY] at hb;rw [e1] at he
 have l1:(X.map Af).length=cutAt (Ai its / 2) its:=by rw [List.length_map,← eX,List.length_take];omega
 have l2:((y :: Y).map Af).length=m-cutAt (Ai its / 2) its:=by rw [List.length_map,← eY,List.length_drop];omega
 exact ⟨va,vb,he,by rw [l1];exact ha,by rw [l2];exact hb,hab,hbe⟩
theorem Oa {w:World} {n l m c:Nat} {A:Option Addr} {its X Y:List It} {y:It} (tv:Value) (h:SS w A m ((its.drop 1).map Af)) (hw:LX0 its) (hu:1012<Ai (its.drop 1)) (hu2:Ai (its.drop 1)≤1404) (hsz:∀ i∈its.drop 1,szI i≤244) (hmc:m≤c) (hc:c≤9223372036854775807) (h4:∀ i∈its,i.r.length=4)
 (eX:its.take (spl false its)=X) (eY:its.drop (spl false its)=y :: Y) :
 Calls Tryz.prog 143 #[tv,.agg #[.int .i64 n,.int .i64 2,.int .i64 l,.slice A m c]] w (Vy w n 2 l (Dz y.r) (bsK y.k) ((X.drop 1).map Af) (Y.map Af)):=by
 have hl:(its.drop 1).length=m:=by have:=h.1;simpa using this
 have h5:=Fz (its.drop 1);obtain ⟨k,hk,hle,_,_,h6,_⟩:=IC0 hu hu2 hsz;have es:spl false its=cutAt (Ai (its.drop 1) / 2) (its.drop 1):=rfl;rw [es,hk] at eX eY
 have hlt:k+1<(its.drop 1).length:=by
  refine Classical.byContradiction fun hn=>?_
  rw [List.drop_of_length_le (by omega),Gi] at h6;omega
 cases its with
 | nil=>simp [Ai] at hu
 | cons i0 cs =>
   have d1:(i0 :: cs).drop 1=cs:=rfl;rw [d1] at h hu hu2 hsz hl h5 hk hle hlt;rw [List.take_succ_cons] at eX;rw [List.drop_succ_cons] at eY;obtain ⟨e1,e2,e3⟩:=getD_drop eY
   refine (AT0 tv h (fun i hi=>hw i (List.mem_cons_of_mem _ hi)) (by omega) hmc hc (by omega) (by omega) (by omega) (fun i hi=>h4 i (List.mem_cons_of_mem _ hi))).mono ?_
   rintro e w' ⟨va,vb,he,ha,hb,hab,hbe⟩;rw [hk] at he ha hb;have e4:k+1-1=k:=rfl;rw [e4] at he ha;rw [e1] at he;rw [← e3] at hb
   have e5:X.drop 1=cs.take k:=by rw [← eX];rfl
   have l1:((X.drop 1).map Af).length=k:=by rw [List.length_map,e5,List.length_take];omega
   have l2:(Y.map Af).length=m-(k+1):=by rw [List.length_map,e3,List.length_drop];omega
   exact ⟨va,vb,he,by rw [l1,e5];exact ha,by rw [l2];exact hb,hab,hbe⟩
def BK0 (X0:List (Option Nat)) (w0:World) (p:Nat) (S S0:St) (root c k d:Nat) (own:List Nat) (L:List It) (en:Ending) (w':World):Prop :=
 en = .returned (.tuple #[])∧∃ S' x' Ds' X',PT w' X' p S' S0 c k∧Turn X0 X' w0 w'∧Tre S'.G root x' Ds'∧Ig [x'] Ds'=L∧Mv S S' own (Ei [x'] Ds')∧S'.q≤S.q+d
theorem IM0 {l:List It} (h:∀ i∈l,szI i≤244∧i.k.length≤200):LX0 l:=fun i hi=>by
 have:=h i hi;refine ⟨this.2, ?_⟩;have h2:=this.1;unfold szI at h2;omega
theorem BY1 {G:Nat→Pg} {root:Nat} {Ds:List (List Nd)} {A B:List Nd} {x:Nd} {ups:List UpR} (h:Pnd G root Ds A x B ups):(∀ i∈x.its,szI i≤244∧i.k.length≤200)∧(Ds≠[]→∀ i∈x.its,i.r.length=4) :=
 ⟨fun i hi=>by obtain ⟨a,b,_⟩:=h.dn.sz (x:=x) (by simp) hi;exact ⟨a,b⟩,fun hD i hi=>by obtain ⟨_,_,c⟩:=h.dn.sz (x:=x) (by simp) hi;exact c hD⟩
theorem FD0 {b:Bool} {l:List It} (h1:1012<Ai (body b l)) (h2:Ai (body b l)≤1404) (hs:∀ i∈body b l,szI i≤244):∃ X y Y,l.take (spl b l)=X∧l.drop (spl b l)=y :: Y∧Halves b X (y :: Y)∧0<spl b l:=by
 obtain ⟨hh,hk,_⟩:=Uo h1 h2 hs
 cases hy:l.drop (spl b l) with
 | nil=>exact absurd hy hh.ne.2
 | cons y Y=>exact ⟨_,y,Y,rfl,rfl,by rw [hy] at hh;exact hh,hk⟩
theorem Eg (l:List It):Be (l.map Af)=Ai l:=Ee l
section
variable {w:World} {X:List (Option Nat)} {tb p root c k cp:Nat} {S S0:St} {A B:List Nd} {x:Nd} {Ar:Option Addr}
theorem PL0 {S:St} (hok:EM0 S) (hq:S.q≤59000) {own own':List Nat} {root:Nat} (hr:root∈own) (p1 p2 p3:Pg) (hp:own'.Perm (own++[S.Ah,S.alloc.Ah])):Mv S ((((S.alloc.alloc).set S.Ah p1).set S.alloc.Ah p2).set root p3) own own':=by
 have h1:=St.Nc hok (by omega)
 have m:=((((Mv.alloc hok own).trans (Mv.alloc h1 (S.Ah :: own))).trans (Mv.set (n:=S.Ah) (by simp) p1)).trans (Mv.set (n:=S.alloc.Ah) (by simp) p2)).trans (Mv.set (n:=root) (by simp [hr]) p3)
 refine m.perm (List.Perm.refl _) (hp.trans ?_)
 refine List.perm_iff_count.2 fun y=>?_
 simp [List.count_append,List.count_cons];omega
theorem TJ0 {Ds:List (List Nd)} {ups:List UpR} (hok:EM0 S) (hq:S.q≤59000) (pd:Pnd S.G root Ds A x B ups) (own:∀ q∈Eh (A++x :: B) Ds ups,0<q∧q<S.q∧q∉S.fr):Pnd S.alloc.alloc.G root Ds A x B ups∧(∀ q∈Eh (A++x :: B) Ds ups,q≠S.Ah∧q≠S.alloc.Ah)∧S.Ah≠S.alloc.Ah:=by
 have h1:=St.Nc hok (by omega)
 have ha:=hok.Ah
 refine ⟨pd.congr fun q hq2=>?_,fun q hq2=>?_,(h1.other ha.2.1 ha.2.2.1).1⟩
 ·obtain ⟨o1,o2,o3⟩:=own q hq2
  have e1:=hok.other o2 o3;have e2:=h1.other e1.2.1 e1.2.2
  rw [h1.BT0 (by omega) e2.1,hok.BT0 (by omega) e1.1]
 ·obtain ⟨o1,o2,o3⟩:=own q hq2
  have e1:=hok.other o2 o3;exact ⟨e1.1,(h1.other e1.2.1 e1.2.2).1⟩
theorem EF0 {Ds:List (List Nd)} (h:PT w X p S S0 c k) (ht:TM w X tb p root) (hc:c+10≤60000) (hk:k≤800000000) (hq:S.q≤59000)
 (pd:Pnd S.G root Ds A x B []) (own:∀ q∈Eh (A++x :: B) Ds [],0<q∧q<S.q∧q∉S.fr)
 (hs:SS w Ar (pgN Ds.isEmpty B x).2.2.length (pgN Ds.isEmpty B x).2.2) (hmc:(pgN Ds.isEmpty B x).2.2.length≤cp) (hcp:cp≤9223372036854775807) :
 Calls Tryz.prog 142 #[.pointer (some ⟨tb,0,none⟩),.agg #[.int .i64 x.n,.int .i64 (pgN Ds.isEmpty B x).1,.int .i64 (pgN Ds.isEmpty B x).2.1,.slice Ar (pgN Ds.isEmpty B x).2.2.length cp]] w (BK0 X w p S S0 root (c+7) (k+11) 2 (Eh (A++x :: B) Ds []) (Ig (A++x :: B) Ds)):=by
 obtain ⟨hA,hB,hn,hl⟩:=pd.top;subst hA hB;have hok:=h.ok;have hfew:=hok.few
 have eo:Eh ([]++x :: []) Ds []=Ei [x] Ds:=by unfold Eh;exact List.append_nil _
 have hroot:x.n∈Eh ([]++x :: []) Ds []:=by rw [eo];exact Bg (by simp) Ds
 obtain ⟨r1,r2,r3⟩:=own x.n hroot;obtain ⟨sz1,sz2⟩:=BY1 pd;have hw:=IM0 sz1;have hle:=pd.le;obtain ⟨pa,pne,p12⟩:=TJ0 hok hq pd own;have ha:=hok.Ah
 have h1:=St.Nc hok (by omega)
 have ha2:=h1.Ah
 have hx1:S.Ah∉Eh ([]++x :: []) Ds []:=fun hm=>(pne _ hm).1 rfl
 have hx2:S.alloc.Ah∉Eh ([]++x :: []) Ds []:=fun hm=>(pne _ hm).2 rfl
 have hnum:Dz (Ak S.Ah)=S.Ah:=Du (by omega)
 cases Ds with
 | nil =>
   have ep:pgN ([]:List (List Nd)).isEmpty [] x=(1,0,x.its.map Af):=rfl;rw [ep] at hs hmc ⊢;dsimp only at hs hmc ⊢;have hu5:=Fz x.its;have hle2:Ai x.its≤1256:=hle;have hcl:(x.its.map Af).length=x.its.length:=List.length_map _
   by_cases hu:1012<Ai x.its
   ·obtain ⟨X1,y,Y,eX,eY,hh,h0⟩:=FD0 (b:=true) hu (by show Ai x.its≤1404;omega) (fun i hi=>(sz1 i hi).1)
    have hits:x.its=X1++y :: Y:=by rw [← eX,← eY,List.take_append_drop]
    have q1:=pa.KI0 (G':=_) hu hx1 hx2 p12 eX eY rfl
    have z1:Be (X1.map Af)≤1012:=by rw [Eg];exact hh.l2
    have z2:Be ((y :: Y).map Af)≤1012:=by rw [Eg];exact hh.r2
    have l1:=Fz X1;have l2:=Fz (y :: Y);have hl2:Ai X1≤1012:=hh.l2;have hr2:Ai (y :: Y)≤1012:=hh.r2
    refine (AR0 (n:=x.n) (l:=0) (l2:=0) (cs:=x.its) (key:=y.k) (cl:=X1.map Af) (cr:=(y :: Y).map Af) h ht hc hk hq r1 r2 r3 hs (by omega) hu (by omega) (sz1 y (by rw [hits];simp)).2 (by rw [List.length_map];omega) (by rw [List.length_map];omega)
     (fun W hb=>Px _ (hs.keep hb) hw hu (by omega) (fun i hi=>(sz1 i hi).1) hmc hcp eX eY) (by omega) (by omega) z1 z2).mono ?_
    rintro en w' ⟨he,X',hp,htu⟩
    refine ⟨he,_,_,_,X',hp,htu, ?_, ?_,PL0 hok hq hroot _ _ _ q1.2,by have:=ha.2.2.2.2;have:=ha2.2.2.2.2;show S.alloc.alloc.q≤_;omega⟩
    ·have:=q1.1
     unfold Yr at this;simp only [List.headD_cons,hnum] at this;rw [← hn] at this;rw [← hn];exact this
    ·simp [Ig,hits]
   ·have hpg:=pd.QS0 (by show Ai x.its≤1012;omega) (fun hD=>absurd rfl hD) rfl
    refine (Vl (n:=x.n) (kd:=1) (l:=0) (cs:=x.its) h ht (by omega) (by omega) r1 r2 r3 (.inl rfl) (by omega) hs (by omega) (by omega)).mono ?_
    rintro en w' ⟨he,X',hp,htu⟩
    refine ⟨he,_,x,[],X',hp.more (by omega) (by omega),htu, ?_,rfl, ?_,by show S.q≤_;omega⟩
    ·have:=hpg.1;rw [← hn] at this ⊢;exact this
    ·rw [hpg.2];exact Mv.set hroot _
 | cons D r =>
   have ep:pgN (D :: r).isEmpty [] x=(2,Dz (x.its.headD ⟨[],[]⟩).r,(x.its.drop 1).map Af):=rfl;rw [ep] at hs hmc ⊢;dsimp only at hs hmc ⊢;have hu5:=Fz (x.its.drop 1);have hle2:Ai (x.its.drop 1)≤1256:=hle;have hcl:((x.its.drop 1).map Af).length=(x.its.drop 1).length:=List.length_map _
   have hhd:x.its.head?.map (·.k)=some x.lo:=Jk (A:=[]) (B:=[]) (M:=[x]) (by have:=pd.dn;simpa using this) (by simp) x List.mem_cons_self
   obtain ⟨i0,cs,hi0⟩:∃ i0 cs,x.its=i0 :: cs:=by
    cases hi:x.its with
    | nil=>rw [hi] at hhd;simp at hhd
    | cons a b=>exact ⟨a,b,rfl⟩
   have hlk:Dz (x.its.headD ⟨[],[]⟩).r≤2147483647:=by
    have h2:x.its=D.map Dl:=by have q:=pd.dn.1.its;simpa using q
    rw [hi0] at h2 ⊢
    cases hD:D with
    | nil=>rw [hD] at h2;cases h2
    | cons d D' =>
      rw [hD] at h2;simp at h2
      have hd:d.n∈Eh ([]++x :: []) (D :: r) []:=by
       rw [eo];exact List.mem_append_right _ (Bg (by rw [hD];simp) r)
      have:=(own d.n hd).2.1
      show Dz i0.r≤_
      rw [h2.1]
      show Dz (Ak d.n)≤_
      rw [Du (by omega)];omega
   by_cases hu:1012<Ai (x.its.drop 1)
   ·obtain ⟨X1,y,Y,eX,eY,hh,h0⟩:=FD0 (b:=false) hu (by show Ai (x.its.drop 1)≤1404;omega) (fun i hi=>(sz1 i (List.mem_of_mem_drop hi)).1)
    have hits:x.its=X1++y :: Y:=by rw [← eX,← eY,List.take_append_drop]
    have q1:=pa.KI0 (G':=_) hu hx1 hx2 p12 eX eY rfl
    have z1:Be ((X1.drop 1).map Af)≤1012:=by rw [Eg];exact hh.l2
    have z2:Be (Y.map Af)≤1012:=by rw [Eg];exact hh.r2
    have l1:=Fz (X1.drop 1);have l2:=Fz Y;have hl2:Ai (X1.drop 1)≤1012:=hh.l2;have hr2:Ai Y≤1012:=hh.r2
    have hyn:Dz y.r≤2147483647:=by
     have h2:x.its=D.map Dl:=by have q:=pd.dn.1.its;simpa using q
     have hy:y∈D.map Dl:=by rw [← h2];simp [hits]
     obtain ⟨d,hd,e⟩:=List.mem_map.1 hy
     have hdo:d.n∈Eh ([]++x :: []) (D :: r) []:=by
      rw [eo];exact List.mem_append_right _ (Bg hd r)
     have:=(own d.n hdo).2.1;rw [← e]
     show Dz (Ak d.n)≤_
     rw [Du (by omega)];omega
    have hlX:Dz (x.its.headD ⟨[],[]⟩).r=Dz (X1.headD ⟨[],[]⟩).r:=by
     rw [hits]
     cases X1 with
     | nil=>exact absurd rfl hh.ne.1
     | cons a b=>rfl
    refine (AY0 (n:=x.n) (l:=Dz (x.its.headD ⟨[],[]⟩).r) (l2:=Dz y.r) (cs:=x.its.drop 1) (key:=y.k) (cl:=(X1.drop 1).map Af) (cr:=Y.map Af) h ht hc hk hq r1 r2 r3 hs (by omega) hu (by omega) (sz1 y (by rw [hits];simp)).2 (by rw [List.length_map];omega) (by rw [List.length_map];omega)
     (fun W hb=>Oa _ (hs.keep hb) hw hu (by omega) (fun i hi=>(sz1 i (List.mem_of_mem_drop hi)).1) hmc hcp (sz2 (by simp)) eX eY) hlk hyn z1 z2).mono ?_
    rintro en w' ⟨he,X',hp,htu⟩
    refine ⟨he,_,⟨root,[],[⟨[],Ak S.Ah⟩,⟨y.k,Ak S.alloc.Ah⟩]⟩,[⟨S.Ah,[],X1⟩,⟨S.alloc.Ah,y.k,y :: Y⟩] :: D :: r,X',hp,htu, ?_,rfl,PL0 hok hq hroot _ _ _ q1.2,by have:=ha.2.2.2.2;have:=ha2.2.2.2.2;show S.alloc.alloc.q≤_;omega⟩
    have:=q1.1
    have e1:Yr ⟨x.n,[],[⟨[],Ak S.Ah⟩,⟨y.k,Ak S.alloc.Ah⟩]⟩=(2,S.Ah,[Af ⟨y.k,Ak S.alloc.Ah⟩]):=by
     unfold Yr;simp only [List.headD_cons,hnum];rfl
    have e2:pgN (D :: r).isEmpty [(⟨S.alloc.Ah,y.k,y :: Y⟩:Nd)] ⟨S.Ah,[],X1⟩=(2,Dz (x.its.headD ⟨[],[]⟩).r,(X1.drop 1).map Af):=by
     rw [hlX];rfl
    rw [e2,← hn,e1] at this;rw [← hn];exact this
   ·by_cases h2:x.its.length≤1
    ·obtain ⟨d,e1,e2,e3,e4,e5,e6⟩:=pd.AE1 h2 (by rw [← hn];omega)
     subst e1
     have hdo:d.n∈Eh ([]++x :: []) ([d] :: r) []:=by
      rw [eo];exact List.mem_append_right _ (Bg (by simp) r)
     obtain ⟨d1,d2,d3⟩:=own d.n hdo
     have e7:x.its.drop 1=[]:=by rw [e2];rfl
     have e8:Dz (x.its.headD ⟨[],[]⟩).r=d.n:=by rw [e2];exact Du (by omega)
     rw [e7,e8]
     refine (ER0 (n:=x.n) (l:=d.n) h ht (by omega) hk r1 r2 r3 d1 d2 d3 (fun e=>e3 (by rw [← e,hn])) (hok.pg _ d2) (by rw [e4];cases r <;> simp [pgN,Yr])).mono ?_
     rintro en w' ⟨he,X',hp,htu⟩
     refine ⟨he,_,⟨root,[],d.its⟩,r,X',hp.more (by omega) (by omega),htu, ?_, ?_, ?_,by show S.q≤_;omega⟩
     ·obtain ⟨t1,t2,t3⟩:=e5
      refine ⟨t1.congr fun q hq2 h0=>⟨h0, ?_⟩,t2,t3⟩
      have hqd:q≠d.n:=fun e=>by
       have hnd:(Ei [(⟨root,[],d.its⟩:Nd)] r++[d.n]).Nodup:=e6.nodup_iff.2 pd.nd
       exact (List.nodup_append.1 hnd).2.2 q hq2 d.n (by simp) e
      show Hm (Hm (Hm S.G d.n _) 0 _) x.n (S.G d.n) q=Hm S.G root (pgN r.isEmpty [] d) q
      by_cases hqr:q=root
      ·rw [hqr,← hn,Dj,Dj,e4]
      ·rw [Aq (by rw [hn];exact hqr),Aq hqr,Aq h0,Aq hqd]
     ·cases r with
      | nil=>show d.its++[]=[d].flatMap (·.its);simp
      | cons D' r'=>rfl
     ·refine ((Mv.free d.n (Ei [(⟨root,[],d.its⟩:Nd)] r)).trans (Mv.set (n:=x.n) (by rw [hn];exact Bg (x:=⟨root,[],d.its⟩) (by simp) r) _)).perm ?_ (List.Perm.refl _)
      exact e6.symm.trans List.perm_append_comm
    ·have hpg:=pd.QS0 (by show Ai (x.its.drop 1)≤1012;omega) (fun _=>by omega) rfl
     refine (Vl (n:=x.n) (kd:=2) (l:=Dz (x.its.headD ⟨[],[]⟩).r) (cs:=x.its.drop 1) h ht (by omega) (by omega) r1 r2 r3 (.inr ⟨rfl,by rw [List.length_map,List.length_drop];omega⟩) hlk hs (by omega) (by omega)).mono ?_
     rintro en w' ⟨he,X',hp,htu⟩
     refine ⟨he,_,x,D :: r,X',hp.more (by omega) (by omega),htu, ?_,rfl, ?_,by show S.q≤_;omega⟩
     ·have:=hpg.1;rw [← hn] at this ⊢;exact this
     ·rw [hpg.2];exact Mv.set hroot _
end
end Go.Proofs.YtjihboddejaelaaGreat
