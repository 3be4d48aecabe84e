/-
  Package tree: join: the cells of two leaves are shared out anew.
-/
import Derived.Test.YtjihboddejaelaaGreatTs1
import Derived.Test.YtjihboddejaelaaGreatTs16
import Derived.Test.YtjihboddejaelaaGreatTs15
set_option linter.unusedVariables false
set_option linter.unusedSimpArgs false
set_option maxRecDepth 100000
set_option maxHeartbeats 100000000
namespace Go.Proofs.YtjihboddejaelaaGreat
open Go.RowKit Go.BigFrame
attribute [local go_sem] Fv Cj Bq Act.put
theorem LW0 {w:World} {X:List (Option Nat)} {tb p root c k pb o un u ui mu cu n0 l0 c0 n1 l1 n2 l2:Nat} {Au A0:Option Addr} {cur:Array Value} {S S0:St} {its U V:List It} {itL itR:It} {s0 s1 s2 bs:List ByteArray} {cl cr:List ByteArray} {key:Ky} {lr:Nat}
 (h:PT w X p S S0 c k) (ht:TM w X tb p root) (hc:c+10≤60000) (hk:k≤800000000)
 (hu:UpM w X pb o un (Dz (its.headD ⟨[],[]⟩).r) ui mu cu Au cur ((its.drop 1).map Af)) (hits:its=U++itL :: itR :: V) (hU:U.length=u) (hu9:u≤1000) (hw:LX0 its) (hl4:itL.r=Ak n1) (hr4:itR.r=Ak n2) (hm:mu≤1000) (ho:o≤1000) (ho2:o+3<cur.size)
 (hs0:SS w A0 s0.length s0) (hx0:∀ a,A0=some a→some a.block∉X∧a.block<w.heap.size)
 (hside:(ui=u+1∧n2=n0∧l2=l0∧s2=s0∧S.G n1=(1,l1,s1))∨(ui=0∧u=0∧n1=n0∧l1=l0∧s1=s0∧S.G n2=(1,l2,s2)))
 (h1:s1.length≤1000) (h2:s2.length≤1000) (hn1:0<n1∧n1<S.q∧n1∉S.fr) (hn2:0<n2∧n2<S.q∧n2∉S.fr) (h12:n1≠n2) (hl1:l1≤2147483647) (hl2:l2≤2147483647) (hbs:s1++s2=bs) (hfit:1012<Be bs∧Be bs≤100000) (hkey:key.length≤200) (hcl:Be cl≤1012) (hcr:Be cr≤1012) (hlr:lr≤2147483647)
 (SPL:∀ W A c,SS W A bs.length bs→bs.length≤c→c≤9223372036854775807→Calls Tryz.prog 143 #[.pointer (some ⟨tb,0,none⟩),.agg #[.int .i64 n1,.int .i64 1,.int .i64 l1,.slice A bs.length c]] W (Vy W n1 1 l1 l1 (bsK key) cl cr)) :
 Calls Tryz.prog 145 #[.pointer (some ⟨tb,0,none⟩),.pointer (some ⟨pb,o,none⟩),.agg #[.int .i64 n0,.int .i64 1,.int .i64 l0,.slice A0 s0.length c0]] w
  (Tq w X p pb o un (Dz (its.headD ⟨[],[]⟩).r) ui (.slice Au mu cu) cur ((S.set n1 (1,l1,cl)).set n2 (1,l2,cr)) S0 (c+2) (k+3) (((its.drop 1).map Af).set u (Af ⟨key,Ak n2⟩))):=by
 have hok:=h.ok;have HP:=Ac h;have HT:=Ac ht;have HCK:=Ac (And.intro hc hk);have HU:=Ac hu;have HSD:=Ac hside;have HN:=Ac (And.intro hn1 (And.intro hn2 h12));have HL:=Ac (And.intro h1 (And.intro h2 (And.intro hl1 hl2)));have HFIT:=Ac hfit;have HBS:=Ac hbs;have HSP:=Ac (And.intro hkey (And.intro hcl (And.intro hcr hlr)));have SP:=Ac SPL;have HUO:=Ac (And.intro hm (And.intro ho (And.intro ho2 hu9)))
 have HOK:=Ac hok;have HIT:=Ac (And.intro hits (And.intro hU (And.intro hw (And.intro hl4 hr4))));obtain ⟨ul,hul⟩:∃ x,Dz (its.headD ⟨[],[]⟩).r=x:=⟨_,rfl⟩;have HUL:=Ac hul;rw [hul] at HU hu ⊢;obtain ⟨cells,hce⟩:∃ x,(its.drop 1).map Af=x:=⟨_,rfl⟩;have HCE:=Ac hce;rw [hce] at HU hu ⊢;obtain ⟨g0,g1,g2,g3,g4⟩:=hu.at5;obtain ⟨iv,hiv⟩:∃ iv:Int,iv=(ui:Int):=⟨_,rfl⟩;rw [← hiv] at g4;have HIV:=Ac hiv;have gf:=hu.hb.frozen
 have gz:=hu.hb.lt;have ltx:=Ac h.lt;have HS0:=Ac (And.intro hs0 hx0);clear h ht hc hk hok hu hul hce hs0 hx0 hits hU hw hl4 hr4 hside hn1 hn2 h12 h1 h2 hl1 hl2 hfit hm ho ho2 hu9 hiv hbs hkey hcl hcr hlr SPL
 go_enter Tryz.func145,Tryz.ntmps145
 go_upto_if 18 with fail
 have BX0:=(Has.new w 116 #[.int .i64 n0,.int .i64 1,.int .i64 l0,.slice A0 s0.length c0]);have BX7:=(Has.new (w.alloc (.cells #[.int .i64 n0,.int .i64 1,.int .i64 l0,.slice A0 s0.length c0] 116)) 116 #[.int .i64 0,.int .i64 0,.int .i64 0,.slice none 0 0]);have BX8:=(Has.new ((w.alloc (.cells #[.int .i64 n0,.int .i64 1,.int .i64 l0,.slice A0 s0.length c0] 116)).alloc (.cells #[.int .i64 0,.int .i64 0,.int .i64 0,.slice none 0 0] 116)) 116 #[.int .i64 0,.int .i64 0,.int .i64 0,.slice none 0 0])
 simp only [World.size_alloc] at BX7 BX8
 have B3:=(((Below.refl w.heap.size w).alloc (Nat.le_refl _) (.cells #[.int .i64 n0,.int .i64 1,.int .i64 l0,.slice A0 s0.length c0] 116)).alloc (by simp) (.cells #[.int .i64 0,.int .i64 0,.int .i64 0,.slice none 0 0] 116)).alloc (by simp;omega) (.cells #[.int .i64 0,.int .i64 0,.int .i64 0,.slice none 0 0] 116)
 have R0:=Ac ((BX0.alloc (.cells #[.int .i64 0,.int .i64 0,.int .i64 0,.slice none 0 0] 116)).alloc (.cells #[.int .i64 0,.int .i64 0,.int .i64 0,.slice none 0 0] 116));have R7:=Ac (BX7.alloc (.cells #[.int .i64 0,.int .i64 0,.int .i64 0,.slice none 0 0] 116));have R8:=Ac BX8;have HB3:=Ac B3;clear BX0 BX7 BX8 B3
 generalize (((w.alloc (.cells #[.int .i64 n0,.int .i64 1,.int .i64 l0,.slice A0 s0.length c0] 116)).alloc (.cells #[.int .i64 0,.int .i64 0,.int .i64 0,.slice none 0 0] 116)).alloc (.cells #[.int .i64 0,.int .i64 0,.int .i64 0,.slice none 0 0] 116))=W3 at *
 have P3:=Ac (HP.out.below HB3.out);have M3:=Ac (HT.out.below HB3.out);have Q3:=Ac (HU.out.below HB3.out);have U3:=Ac (Turn.below X HB3.out)
 have NX:Hid (∀ i,w.heap.size≤i→some i∉X):=Ac (fun i hi hm=>by have:=ltx.out _ hm;omega)
 clear g0 g1 g2 g3 g4 gf
 go_cut [6,7,8] (fun v6 v7 v8 wx=>FD1 w X tb p root c (k+1) pb o un ul ui mu cu u n1 n2 1 l1 l2 Au cur cells s1 s2 S S0 v6 v7 v8 wx)
 case first =>
  obtain hsd:=HSD.out
  rcases hsd with ⟨hui,rfl,rfl,rfl,hG⟩ | ⟨hui,rfl,rfl,rfl,rfl,hG⟩
  ·have LD:=Ac (fun W (h:PT W X p S S0 c k) (ht:TM W X tb p root)=>Gg (n:=n1) h ht (by have:=HCK.out;omega) (by have:=HCK.out;omega) (by have:=HN.out;omega) (HOK.out.pg _ (by have:=HN.out;omega)) (by rw [hG];simp))
   rw [hG] at LD
   have KD0:=(fun W (h:SS W Au mu ((its.drop 1).map Af))=>Ie un mu cu Au its W HIT.out.1 h HIT.out.2.2.1 (by rw [HIT.out.2.2.2.1];rfl) (by have:=HUO.out;omega))
   rw [HIT.out.2.2.2.1,Du (by have:=HOK.out.few;have:=HN.out;omega),HIT.out.2.1,HUL.out,HCE.out] at KD0
   have i0:(0:Int)<(u:Int)+1:=by omega
   have wu:IntKind.i64.wrap (u:Int)=(u:Int):=IntWalk.i64_in _ ⟨by omega,by have:=HIT.out.2.1;have:=HUO.out;omega⟩
   have KD1:=Ac KD0
   obtain rfl:iv=(u:Int)+1:=by have:=HIV.out;omega
   clear KD0 hG hui;obtain ⟨g0,g1,g2,g3,g4⟩:=Q3.out.at5;have gf:=Q3.out.hb.frozen;have gz3:=Q3.out.hb.lt;obtain ⟨r0,r1,r2,r3⟩:=R0.out.cells4;have rz:=R0.out.lt
   go_upto_region 4 with fail
   have k3:=Ac (at8 (R0.out.drew) (Q3.out.below ((Below.refl W3.heap.size W3).drew)))
   have NA:Hid (∀ g,w.heap.size≤g→∀ k,(Value.slice Au mu cu).ownBlock=some k→k≠g):=Ac (fun g hg k hk e=>by have:=(HU.out.row.lt k hk).2;omega)
   have N07:Hid (w.heap.size≠w.heap.size+1):=Ac (by omega)
   have N08:Hid (w.heap.size≠w.heap.size+1+1):=Ac (by omega)
   have N7:Hid (pb≠w.heap.size+1):=Ac (by omega)
   have N8:Hid (pb≠w.heap.size+1+1):=Ac (by omega)
   have NA7:=Ac (NA.out (w.heap.size+1) (Nat.le_succ _))
   have NA8:=Ac (NA.out (w.heap.size+1+1) (by omega))
   have KD4:=Ac (fun W (h:Below W3.heap.size W3 W) (y:Int) (hy:y=u)=>by have q:=KD1.out W (Q3.out.below h).ss;rw [← hy] at q;exact q)
   go_region_held3 (fun w'=>w'.cell? ⟨w.heap.size,0,none⟩=some (.int .i64 n2)∧w'.cell? ⟨w.heap.size,1,none⟩=some (.int .i64 1)∧w'.cell? ⟨w.heap.size,2,none⟩=some (.int .i64 l2)∧w'.cell? ⟨w.heap.size,3,none⟩=some (.slice A0 s2.length c0)∧w'.cell? ⟨pb,o,none⟩=some (.int .i64 un)∧w'.cell? ⟨pb,o+1,none⟩=some (.int .i64 2)∧w'.cell? ⟨pb,o+2,none⟩=some (.int .i64 ul)∧w'.cell? ⟨pb,o+3,none⟩=some (.slice Au mu cu)) (first | (with_reducible exact k7.out) | (with_reducible exact k6.out) | (with_reducible exact k5.out) | (with_reducible exact k4.out) | (with_reducible exact k3.out) | go_keep)
    (first
      | (go_at_call 132;(with_reducible refine (KD4.out _ ((Below.refl _ _).drew) _ (by first | exact wu | (rw [wu]) | omega)).mono ?_);rintro en w4 ⟨rfl,hb4⟩;have B4:=Ac (show Below W3.heap.size W3 w4 from ((Below.refl W3.heap.size W3).drew).trans (show Below W3.heap.size W3.drew w4 from hb4));have H4:=Ac (R0.out.Aj (((Below.refl W3.heap.size W3).drew).trans hb4));have Q4:=Ac (Q3.out.below (((Below.refl W3.heap.size W3).drew).trans hb4));have k4:=Ac (at8 H4.out Q4.out);clear hb4)
      | (go_at_call 62;(with_reducible refine (LD.out _ (P3.out.below B4.out) (M3.out.below B4.out)).mono ?_);rintro en w5 ⟨A1,c1,X5,rfl,hp5,ht5,ho5,hq5⟩;have P5:=Ac hp5;have T5:=Ac (((Turn.below X B4.out).trans ht5));have O5:=Ac ho5;have Z5:=Ac hq5;have G0:=Ac (T5.out.has R0.out (NX.out _ (Nat.le_refl _)));have Q5:=Ac (Q3.out.turn T5.out);have k5:=Ac (at8 G0.out Q5.out);have H6:=Ac (Bl G0.out N07.out (.int .i64 n1) (.int .i64 1) (.int .i64 l1) (.slice A1 s1.length c1));have Q6:=Ac (UpM.Ij Q5.out N7.out NA7.out (.int .i64 n1) (.int .i64 1) (.int .i64 l1) (.slice A1 s1.length c1));have k6:=Ac (at8 H6.out Q6.out);have H7:=Ac (Bl H6.out N08.out (.int .i64 n2) (.int .i64 1) (.int .i64 l2) (.slice A0 s2.length c0));have Q7:=Ac (UpM.Ij Q6.out N8.out NA8.out (.int .i64 n2) (.int .i64 1) (.int .i64 l2) (.slice A0 s2.length c0));have k7:=Ac (at8 H7.out Q7.out);have y7:=(T5.out.has R7.out (NX.out _ (Nat.le_succ _))).lt;have f7:=(T5.out.has R7.out (NX.out _ (Nat.le_succ _))).frozen;have y8:=(T5.out.has R8.out (NX.out _ (by omega))).lt;have f8:=(T5.out.has R8.out (NX.out _ (by omega))).frozen;obtain ⟨a0,a1,a2,a3⟩:=(T5.out.has R7.out (NX.out _ (Nat.le_succ _))).cells4;obtain ⟨d0,d1,d2,d3⟩:=(T5.out.has R8.out (NX.out _ (by omega))).cells4;clear hp5 ht5 ho5 hq5))
   go_wp2_with fail
   go_meet
   have o7:some (w.heap.size+1)∉X5:=T5.out.out (NX.out _ (Nat.le_succ _)) R7.out.lt
   have o8:some (w.heap.size+1+1)∉X5:=T5.out.out (NX.out _ (by omega)) R8.out.lt
   have tb7:tb≠w.heap.size+1:=by have:=HT.out.has.lt;omega
   have tb8:tb≠w.heap.size+1+1:=by have:=HT.out.has.lt;omega
   have ge7:w.heap.size≤w.heap.size+1:=Nat.le_succ _
   have ge8:w.heap.size≤w.heap.size+1+1:=by omega
   have h7:=T5.out.has R7.out (NX.out _ (Nat.le_succ _))
   have h8:=T5.out.has R8.out (NX.out _ (by omega))
   have d78:w.heap.size+1≠w.heap.size+1+1:=by omega
   have ssl:=SS.Dv O5.out
   have ssa:=(HS0.out.1.keep HB3.out).stay T5.out.size fun a e=>T5.out.block _ (Nat.lt_of_lt_of_le (HS0.out.2 a e).2 HB3.out.size) (HS0.out.2 a e).1
   have bs:=B4.out.size;have rz8:=R8.out.lt;have s3:=HB3.out.size;have s5:=T5.out.size
   have xl:∀ a,A1=some a→some a.block∉X5∧a.block<w5.heap.size∧a.block≠w.heap.size+1∧a.block≠w.heap.size+1+1:=fun a e=>by
    subst e;have q:=O5.out.lt a.block rfl
    exact ⟨Z5.out a.block rfl,q.2,by omega,by omega⟩
   have xa:∀ a,A0=some a→some a.block∉X5∧a.block<w5.heap.size∧a.block≠w.heap.size+1∧a.block≠w.heap.size+1+1:=fun a e=>by
    have q:=HS0.out.2 a e
    exact ⟨T5.out.out q.1 (by omega),by omega,by omega,by omega⟩
   have hz7:((((((((w5.setCell ⟨w.heap.size+1,0,none⟩ (.int .i64 n1)).setCell ⟨w.heap.size+1,1,none⟩ (.int .i64 1)).setCell ⟨w.heap.size+1,2,none⟩ (.int .i64 l1)).setCell ⟨w.heap.size+1,3,none⟩ (.slice A1 s1.length c1)).setCell ⟨w.heap.size+1+1,0,none⟩ (.int .i64 n2)).setCell ⟨w.heap.size+1+1,1,none⟩ (.int .i64 1)).setCell ⟨w.heap.size+1+1,2,none⟩ (.int .i64 l2)).setCell ⟨w.heap.size+1+1,3,none⟩ (.slice A0 s2.length c0)).heap.size=w5.heap.size:=by simp
   have tbl:=HT.out.has.lt;have pbl:=HU.out.hb.lt
   refine ⟨rfl,_,_,X5,A1,A0,c1,c0,_,rfl,rfl,rfl,⟨((P5.out.Me o7).Me o8),(((M3.out.turn T5.out).Me tb7).Me tb8),Q7.out,(((U3.out.trans T5.out).Ho ge7).Ho ge8),⟨Bl (Fq h7 _ _ _ _) d78 _ _ _ _,Fq (Bl h8 d78.symm _ _ _ _) _ _ _ _,o7,o8,Nat.lt_succ_self _,(ssl.Ij (fun a e=>(xl a e).2.2.1) _ _ _ _).Ij (fun a e=>(xl a e).2.2.2) _ _ _ _,(ssa.Ij (fun a e=>(xa a e).2.2.1) _ _ _ _).Ij (fun a e=>(xa a e).2.2.2) _ _ _ _,fun a e=>⟨(xl a e).1,by rw [hz7];exact (xl a e).2.1,(xl a e).2.2⟩,fun a e=>⟨(xa a e).1,by rw [hz7];exact (xa a e).2.1,(xa a e).2.2⟩⟩,by rw [hz7];omega,by rw [hz7];omega,by rw [hz7];omega,fun g hg=>by rw [hz7];exact (Q5.out.row.lt g hg).2,fun g hg=>by have:=(HU.out.row.lt g hg).2;omega,fun a e=>by rw [hz7];exact (xl a e).2.1,fun a e=>by rw [hz7];exact (xa a e).2.1,by rw [hz7];omega,Nat.le_refl _⟩⟩
  ·have LD:=Ac (fun W (h:PT W X p S S0 c k) (ht:TM W X tb p root)=>Gg (n:=n2) h ht (by have:=HCK.out;omega) (by have:=HCK.out;omega) (by have:=HN.out;omega) (HOK.out.pg _ (by have:=HN.out;omega)) (by rw [hG];simp))
   rw [hG] at LD
   have KD0:=(fun W (h:SS W Au mu ((its.drop 1).map Af))=>Ie un mu cu Au its W (U:=U++[itL]) (it:=itR) (V:=V) (by rw [HIT.out.1];simp) h HIT.out.2.2.1 (by rw [HIT.out.2.2.2.2];rfl) (by have:=HUO.out;omega))
   have hU1:(U++[itL]).length=1:=by rw [List.length_append,HIT.out.2.1];rfl
   rw [HIT.out.2.2.2.2,Du (by have:=HOK.out.few;have:=HN.out;omega),hU1,HUL.out,HCE.out] at KD0
   have KD1:=Ac KD0
   obtain rfl:iv=0:=by have:=HIV.out;omega
   clear KD0 hG hui;obtain ⟨g0,g1,g2,g3,g4⟩:=Q3.out.at5;have gf:=Q3.out.hb.frozen;have gz3:=Q3.out.hb.lt;obtain ⟨r0,r1,r2,r3⟩:=R0.out.cells4;have rz:=R0.out.lt
   go_upto_region 6 with fail
   have k3:=Ac (at8 (R0.out.drew) (Q3.out.below ((Below.refl W3.heap.size W3).drew)))
   have NA:Hid (∀ g,w.heap.size≤g→∀ k,(Value.slice Au mu cu).ownBlock=some k→k≠g):=Ac (fun g hg k hk e=>by have:=(HU.out.row.lt k hk).2;omega)
   have N07:Hid (w.heap.size≠w.heap.size+1):=Ac (by omega)
   have N08:Hid (w.heap.size≠w.heap.size+1+1):=Ac (by omega)
   have N7:Hid (pb≠w.heap.size+1):=Ac (by omega)
   have N8:Hid (pb≠w.heap.size+1+1):=Ac (by omega)
   have NA7:=Ac (NA.out (w.heap.size+1) (Nat.le_succ _))
   have NA8:=Ac (NA.out (w.heap.size+1+1) (by omega))
   have KD4:=Ac (fun W (h:Below W3.heap.size W3 W) (y:Int) (hy:y=((1:Nat):Int))=>by have q:=KD1.out W (Q3.out.below h).ss;rw [← hy] at q;exact q)
   go_region_held3 (fun w'=>w'.cell? ⟨w.heap.size,0,none⟩=some (.int .i64 n1)∧w'.cell? ⟨w.heap.size,1,none⟩=some (.int .i64 1)∧w'.cell? ⟨w.heap.size,2,none⟩=some (.int .i64 l1)∧w'.cell? ⟨w.heap.size,3,none⟩=some (.slice A0 s1.length c0)∧w'.cell? ⟨pb,o,none⟩=some (.int .i64 un)∧w'.cell? ⟨pb,o+1,none⟩=some (.int .i64 2)∧w'.cell? ⟨pb,o+2,none⟩=some (.int .i64 ul)∧w'.cell? ⟨pb,o+3,none⟩=some (.slice Au mu cu)) (first | (with_reducible exact k7.out) | (with_reducible exact k6.out) | (with_reducible exact k5.out) | (with_reducible exact k4.out) | (with_reducible exact k3.out) | go_keep)
    (first
      | (go_at_call 132;(with_reducible refine (KD4.out _ ((Below.refl _ _).drew) _ (by omega)).mono ?_);rintro en w4 ⟨rfl,hb4⟩;have B4:=Ac (show Below W3.heap.size W3 w4 from ((Below.refl W3.heap.size W3).drew).trans (show Below W3.heap.size W3.drew w4 from hb4));have H4:=Ac (R0.out.Aj (((Below.refl W3.heap.size W3).drew).trans hb4));have Q4:=Ac (Q3.out.below (((Below.refl W3.heap.size W3).drew).trans hb4));have k4:=Ac (at8 H4.out Q4.out);clear hb4)
      | (go_at_call 62;(with_reducible refine (LD.out _ (P3.out.below B4.out) (M3.out.below B4.out)).mono ?_);rintro en w5 ⟨A1,c1,X5,rfl,hp5,ht5,ho5,hq5⟩;have P5:=Ac hp5;have T5:=Ac (((Turn.below X B4.out).trans ht5));have O5:=Ac ho5;have Z5:=Ac hq5;have G0:=Ac (T5.out.has R0.out (NX.out _ (Nat.le_refl _)));have Q5:=Ac (Q3.out.turn T5.out);have k5:=Ac (at8 G0.out Q5.out);have H6:=Ac (Bl G0.out N07.out (.int .i64 n1) (.int .i64 1) (.int .i64 l1) (.slice A0 s1.length c0));have Q6:=Ac (UpM.Ij Q5.out N7.out NA7.out (.int .i64 n1) (.int .i64 1) (.int .i64 l1) (.slice A0 s1.length c0));have k6:=Ac (at8 H6.out Q6.out);have H7:=Ac (Bl H6.out N08.out (.int .i64 n2) (.int .i64 1) (.int .i64 l2) (.slice A1 s2.length c1));have Q7:=Ac (UpM.Ij Q6.out N8.out NA8.out (.int .i64 n2) (.int .i64 1) (.int .i64 l2) (.slice A1 s2.length c1));have k7:=Ac (at8 H7.out Q7.out);have y7:=(T5.out.has R7.out (NX.out _ (Nat.le_succ _))).lt;have f7:=(T5.out.has R7.out (NX.out _ (Nat.le_succ _))).frozen;have y8:=(T5.out.has R8.out (NX.out _ (by omega))).lt;have f8:=(T5.out.has R8.out (NX.out _ (by omega))).frozen;obtain ⟨a0,a1,a2,a3⟩:=(T5.out.has R7.out (NX.out _ (Nat.le_succ _))).cells4;obtain ⟨d0,d1,d2,d3⟩:=(T5.out.has R8.out (NX.out _ (by omega))).cells4;clear hp5 ht5 ho5 hq5))
   go_wp2_with fail
   go_meet
   have o7:some (w.heap.size+1)∉X5:=T5.out.out (NX.out _ (Nat.le_succ _)) R7.out.lt
   have o8:some (w.heap.size+1+1)∉X5:=T5.out.out (NX.out _ (by omega)) R8.out.lt
   have tb7:tb≠w.heap.size+1:=by have:=HT.out.has.lt;omega
   have tb8:tb≠w.heap.size+1+1:=by have:=HT.out.has.lt;omega
   have ge7:w.heap.size≤w.heap.size+1:=Nat.le_succ _
   have ge8:w.heap.size≤w.heap.size+1+1:=by omega
   have h7:=T5.out.has R7.out (NX.out _ (Nat.le_succ _))
   have h8:=T5.out.has R8.out (NX.out _ (by omega))
   have d78:w.heap.size+1≠w.heap.size+1+1:=by omega
   have ssl:=SS.Dv O5.out
   have ssa:=(HS0.out.1.keep HB3.out).stay T5.out.size fun a e=>T5.out.block _ (Nat.lt_of_lt_of_le (HS0.out.2 a e).2 HB3.out.size) (HS0.out.2 a e).1
   have bs:=B4.out.size;have rz8:=R8.out.lt;have s3:=HB3.out.size;have s5:=T5.out.size
   have xl:∀ a,A1=some a→some a.block∉X5∧a.block<w5.heap.size∧a.block≠w.heap.size+1∧a.block≠w.heap.size+1+1:=fun a e=>by
    subst e;have q:=O5.out.lt a.block rfl
    exact ⟨Z5.out a.block rfl,q.2,by omega,by omega⟩
   have xa:∀ a,A0=some a→some a.block∉X5∧a.block<w5.heap.size∧a.block≠w.heap.size+1∧a.block≠w.heap.size+1+1:=fun a e=>by
    have q:=HS0.out.2 a e
    exact ⟨T5.out.out q.1 (by omega),by omega,by omega,by omega⟩
   have hz7:((((((((w5.setCell ⟨w.heap.size+1,0,none⟩ (.int .i64 n1)).setCell ⟨w.heap.size+1,1,none⟩ (.int .i64 1)).setCell ⟨w.heap.size+1,2,none⟩ (.int .i64 l1)).setCell ⟨w.heap.size+1,3,none⟩ (.slice A0 s1.length c0)).setCell ⟨w.heap.size+1+1,0,none⟩ (.int .i64 n2)).setCell ⟨w.heap.size+1+1,1,none⟩ (.int .i64 1)).setCell ⟨w.heap.size+1+1,2,none⟩ (.int .i64 l2)).setCell ⟨w.heap.size+1+1,3,none⟩ (.slice A1 s2.length c1)).heap.size=w5.heap.size:=by simp
   have tbl:=HT.out.has.lt;have pbl:=HU.out.hb.lt
   refine ⟨rfl,_,_,X5,A0,A1,c0,c1,_,rfl,rfl,rfl,⟨((P5.out.Me o7).Me o8),(((M3.out.turn T5.out).Me tb7).Me tb8),Q7.out,(((U3.out.trans T5.out).Ho ge7).Ho ge8),⟨Bl (Fq h7 _ _ _ _) d78 _ _ _ _,Fq (Bl h8 d78.symm _ _ _ _) _ _ _ _,o7,o8,Nat.lt_succ_self _,(ssa.Ij (fun a e=>(xa a e).2.2.1) _ _ _ _).Ij (fun a e=>(xa a e).2.2.2) _ _ _ _,(ssl.Ij (fun a e=>(xl a e).2.2.1) _ _ _ _).Ij (fun a e=>(xl a e).2.2.2) _ _ _ _,fun a e=>⟨(xa a e).1,by rw [hz7];exact (xa a e).2.1,(xa a e).2.2⟩,fun a e=>⟨(xl a e).1,by rw [hz7];exact (xl a e).2.1,(xl a e).2.2⟩⟩,by rw [hz7];omega,by rw [hz7];omega,by rw [hz7];omega,fun g hg=>by rw [hz7];exact (Q5.out.row.lt g hg).2,fun g hg=>by have:=(HU.out.row.lt g hg).2;omega,fun a e=>by rw [hz7];exact (xa a e).2.1,fun a e=>by rw [hz7];exact (xl a e).2.1,by rw [hz7];omega,Nat.le_refl _⟩⟩
 case rest =>
  obtain ⟨rfl,b7,b8,X1,A1,A2,c1,c2,z,rfl,rfl,hz,jx⟩:=hcut;have J0:=Ac jx;obtain ⟨a0,a1,a2,a3⟩:=jx.jn.z7.cells4;have az:=jx.jn.z7.lt;clear jx;clear R0 R7 R8 HB3 P3 M3 Q3 U3 NX HSD HIV HS0 HP HT HU
  go_wp2_with fail
  have q9:=Has.new wc 116 #[.int .i64 n1,.int .i64 1,.int .i64 l1,.slice A1 s1.length c1];have bq:=Ag wc (.cells #[.int .i64 n1,.int .i64 1,.int .i64 l1,.slice A1 s1.length c1] 116);have J1:=Ac (J0.out.below bq)
  have N1:Hid (some wc.heap.size∉X1):=Ac (fun hm=>by have:=J0.out.pt.lt _ hm;omega)
  have H9:=Ac q9;clear q9 bq J0 a0 a1 a2 a3 az
  generalize wc.alloc (.cells #[.int .i64 n1,.int .i64 1,.int .i64 l1,.slice A1 s1.length c1] 116)=W1 at *
  rw [← hz] at H9 N1 ⊢;clear hz
  refine (Gn J1.out.jn.r1 (by have:=HL.out;omega)).mono ?_
  rintro en w2 ⟨va,rfl,ho2,hb2⟩;obtain ⟨A9,c9,rfl,hc9⟩:=Bd ho2;have J2:=Ac (J1.out.below hb2);have H2:=Ac (H9.out.Aj hb2);have zz2:=J1.out.zz
  have NW3:Hid (Nw (w2.setCell ⟨z,3,none⟩ (.slice A9 s1.length c9)) X1 z z n1 1 l1 s1.length c9 A9 s1):=Ac ⟨Nat.le_refl _,H2.out.set 3 _,N1.out,Bf (own_base ho2 zz2) (fun g hg=>Below.heap_setCell _ _ _ _ (fun e=>by have e2:g=z:=e;have:=(ho2.lt g hg).1;have:=H9.out.lt;omega)),fun g hg=>⟨fun hm=>by have:=J1.out.pt.lt g hm;have:=(ho2.lt g hg).1;omega,fun e=>by have:=(ho2.lt g hg).1;have:=H9.out.lt;omega⟩⟩
  have J3:=Ac (J2.out.set (Nat.le_refl z) N1.out 3 (.slice A9 s1.length c9));obtain ⟨x0,x1,x2,x3⟩:=H2.out.cells4;have xf:=H2.out.frozen;have xz:=H2.out.lt;obtain ⟨a0,a1,a2,a3⟩:=J2.out.jn.z7.cells4;have az:=J2.out.jn.z7.lt;have d7:b7<z:=Nat.lt_trans J2.out.jn.d J2.out.z8;have d8:b8<z:=J2.out.z8;clear ho2 hb2 J1 H9 J2 H2 zz2
  go_wp2_with fail
  generalize w2.setCell ⟨z,3,none⟩ (.slice A9 s1.length c9)=W3 at *
  clear x0 x1 x2 x3 xf xz a0 a1 a2 a3 az
  refine (Ko n1 l1 (.slice A1 s1.length c1) W3).mono ?_
  rintro en w4 ⟨rfl,hb4⟩;have J4:=Ac (J3.out.below hb4);have NW4:=Ac (NW3.out.below hb4);obtain ⟨x0,x1,x2,x3⟩:=NW4.out.hz.cells4;obtain ⟨i0,hi0,hz0,hz1,hz2⟩:=info_parts Np;clear hb4 J3 NW3;have E9:=Ac HBS.out
  have TL:=Ac (show s1.length≤1001 by have:=HL.out;omega)
  obtain ⟨a0,a1,a2,a3⟩:=J4.out.jn.z8.cells4
  have G1:Hid (s1.length+s2.length≤maxLen):=Ac (by have:=HL.out;have:=TL.out;unfold maxLen;omega)
  have G2:Hid ((s1.length+s2.length)*16≤140737488355328):=Ac (by have:=HL.out;have:=TL.out;omega)
  have G3:Hid (z≤w4.heap.size):=Ac J4.out.zz
  go_wp2_with (at_builtin;refine Dh _ rfl (.tmp 72) (.tmp 75) 44 44 rfl z 9 i0 _ 1 16 Tryz.underlying44 hi0 hz0 hz1 hz2 rfl (by decide) (.slice A9 s1.length c9) s1.length (strs s1) rfl NW4.out.row (.slice A2 s2.length c2) s2.length (strs s2) rfl J4.out.jn.r2.src G1.out G2.out G3.out ?_;intro v5 w5 ho5 hg5 _ hat5;obtain ⟨A5,c5,rfl,hc5⟩:=Bd ho5;have HO5:=Ac ho5;have HG5:=Ac hg5;have HA5:=Ac hat5;have x5:=Ac (NW4.out.FA0 hg5);clear ho5 hg5 hat5 x0 x1 x2 x3 a0 a1 a2 a3;obtain ⟨x0,x1,x2,x3⟩:=x5.out.cells4;have xf:=x5.out.frozen;have xz:=x5.out.lt)
  have NW6:=Ac (NW4.out.app (fun g hg=>J4.out.pt.lt g hg) List.length_append.symm HO5.out HG5.out HA5.out)
  have J6:=Ac ((J4.out.grown HG5.out (fun g hg=>⟨(NW4.out.row.lt g hg).1,(NW4.out.rx g hg).1⟩)).set (Nat.le_refl z) N1.out 3 (.slice A5 (s1++s2).length c5))
  have HM:=Ac (show (s1++s2).length≤2001 by rw [List.length_append];have:=HL.out;have:=TL.out;omega)
  have CAP:=Ac (Xb NW6.out.row).2
  rw [show s1.length+s2.length=(s1++s2).length from List.length_append.symm]
  rw [E9.out] at NW6 J6 HM CAP ⊢;clear x5 x0 x1 x2 x3 xf xz HO5 HG5 HA5 J4 NW4 G1 G2 G3 hc5
  generalize w5.setCell ⟨z,3,none⟩ (.slice A5 bs.length c5)=W6 at *
  have US:=Ac (Gh A5 bs.length c5 bs W6 NW6.out.ss (by have:=HM.out;omega) (by have:=HFIT.out;omega))
  obtain ⟨us,hus⟩:∃ us,Be bs=us:=⟨_,rfl⟩;rw [hus] at US
  have u1:¬ (us:Int)≤1012:=by have:=HFIT.out;omega
  refine US.out.mono ?_
  rintro en w6 ⟨rfl,rfl⟩;clear US hus;obtain ⟨x0,x1,x2,x3⟩:=NW6.out.hz.cells4
  go_wp2_with fail
  refine (SP.out W6 A5 c5 NW6.out.ss CAP.out.1 CAP.out.2).mono ?_
  rintro en w7 ⟨va,vb,rfl,hoa,hob,hab,hb7⟩;obtain ⟨Aa,ca,rfl,hca⟩:=Bd hoa;obtain ⟨Ab,cb,rfl,hcb⟩:=Bd hob;have J7:=Ac (J6.out.below hb7);have ltX:=Ac J6.out.pt.lt;have z67:=Ac hb7.size;have OA:=Ac hoa;have OB:=Ac hob;have ZJ:=Ac J6.out.zz;clear x0 x1 x2 x3 hoa hob hb7 J6 NW6 hca hcb SP CAP HM;obtain ⟨a0,a1,a2,a3⟩:=J7.out.jn.z7.cells4;have az:=J7.out.jn.z7.lt;have e0:=J7.out.jn.z8.cell 0;have ez:=J7.out.jn.z8.lt
  go_wp2_with fail
  have HL9:=Has.new w7 116 #[.int .i64 n1,.int .i64 1,.int .i64 l1,.slice Aa cl.length ca];have HR9:=Has.new (w7.alloc (.cells #[.int .i64 n1,.int .i64 1,.int .i64 l1,.slice Aa cl.length ca] 116)) 116 #[.int .i64 n2,.int .i64 1,.int .i64 l1,.slice Ab cr.length cb];rw [World.size_alloc] at HR9
  have bq:=((Below.refl w7.heap.size w7).alloc (Nat.le_refl _) (.cells #[.int .i64 n1,.int .i64 1,.int .i64 l1,.slice Aa cl.length ca] 116)).alloc (by simp) (.cells #[.int .i64 n2,.int .i64 1,.int .i64 l1,.slice Ab cr.length cb] 116)
  have J8:=Ac (J7.out.below bq);have zz7:z≤w7.heap.size:=J7.out.zz
  have nX:∀ g,w7.heap.size≤g→some g∉X1:=fun g hg hm=>by have:=ltX.out g hm;have:=z67.out;omega
  have NL8:=Ac (Nw.mk2 (bs:=cl) (X:=X1) zz7 (nX _ (Nat.le_refl _)) (HL9.alloc (.cells #[.int .i64 n2,.int .i64 1,.int .i64 l1,.slice Ab cr.length cb] 116)) ((OA.out.alloc _).alloc _) ZJ.out ltX.out (fun g hg=>by have:=(OA.out.lt g hg).2;omega))
  have NR8:=Ac (Nw.mk2 (bs:=cr) (X:=X1) (Nat.le_succ_of_le zz7) (nX _ (Nat.le_succ _)) HR9 ((OB.out.alloc _).alloc _) ZJ.out ltX.out (fun g hg=>by have:=(OB.out.lt g hg).2;omega))
  have LRX:=Ac (show (∀ g,(Value.slice Aa cl.length ca).ownBlock=some g→g≠w7.heap.size+1)∧(∀ g,(Value.slice Ab cr.length cb).ownBlock=some g→g≠w7.heap.size) from ⟨fun g hg=>by have:=(OA.out.lt g hg).2;omega,fun g hg=>by have:=(OB.out.lt g hg).2;omega⟩)
  clear HL9 HR9 bq J7 nX OA OB ltX z67 ZJ a0 a1 a2 a3 az e0 ez zz7
  generalize (w7.alloc (.cells #[.int .i64 n1,.int .i64 1,.int .i64 l1,.slice Aa cl.length ca] 116)).alloc (.cells #[.int .i64 n2,.int .i64 1,.int .i64 l1,.slice Ab cr.length cb] 116)=W8 at *
  generalize hb10:w7.heap.size=b10 at *
  clear hb10
  refine (Ko n1 l1 (.slice A1 s1.length c1) W8).mono ?_
  rintro en w9 ⟨rfl,hb9⟩;have J9:=Ac (J8.out.below hb9);have NL9:=Ac (NL8.out.below hb9);have NR9:=Ac (NR8.out.below hb9);clear hb9 J8 NL8 NR8;obtain ⟨x0,x1,x2,x3⟩:=NL9.out.hz.cells4;have xf:=NL9.out.hz.frozen;have xz:=NL9.out.hz.lt;obtain ⟨y0,y1,y2,y3⟩:=NR9.out.hz.cells4;have yf:=NR9.out.hz.frozen;have yz:=NR9.out.hz.lt;have a2:=J9.out.jn.z7.cell 2;have e2:=J9.out.jn.z8.cell 2;have d710:b7<b10:=Nat.lt_of_lt_of_le (Nat.lt_trans J9.out.jn.d J9.out.z8) NL9.out.zb
  have d810:b8<b10:=Nat.lt_of_lt_of_le J9.out.z8 NL9.out.zb
  go_wp2_with fail
  go_region
  go_wp2_with fail
  have NX10:=Ac NL9.out.nx;have NX12:=Ac NR9.out.nx;have W9b:=Ac ((Below.refl ((w9.setCell ⟨b10,2,none⟩ (.int .i64 l1)).setCell ⟨b10+1,2,none⟩ (.int .i64 l2)).heap.size ((w9.setCell ⟨b10,2,none⟩ (.int .i64 l1)).setCell ⟨b10+1,2,none⟩ (.int .i64 l2))).drew);have J10:=Ac (((J9.out.set NL9.out.zb NX10.out 2 (.int .i64 l1)).set NR9.out.zb NX12.out 2 (.int .i64 l2)).below W9b.out)
  have NL10:=Ac (((NL9.out.link l1).far (g:=b10+1) (by omega) LRX.out.1 2 (.int .i64 l2)).below W9b.out)
  have NR10:=Ac (((NR9.out.far (g:=b10) (by omega) LRX.out.2 2 (.int .i64 l1)).link l2).below W9b.out)
  clear x0 x1 x2 x3 xf xz y0 y1 y2 y3 yf yz a2 e2 J9 NL9 NR9 W9b d710 d810
  generalize ((w9.setCell ⟨b10,2,none⟩ (.int .i64 l1)).setCell ⟨b10+1,2,none⟩ (.int .i64 l2)).drew=W10 at *
  have PGL:Qq (1,l1,cl):=⟨by show 1≤1;omega,by show 1≤5;omega,by have:=HL.out;show l1≤_;omega,HSP.out.2.1⟩
  have PGR:Qq (1,l2,cr):=⟨by show 1≤1;omega,by show 1≤5;omega,by have:=HL.out;have:=HSP.out;show l2≤_;omega,HSP.out.2.2.1⟩
  have SVR:=Ac (fun W X (h:PT W X p (S.set n1 (1,l1,cl)) S0 (c+1) (k+1+1)) (ht:TM W X tb p root) (hs:SS W Ab cr.length cr)=>Dp (n:=n2) (cp:=cb) (pg:=(1,l2,cr)) h ht (by have:=HCK.out;omega) (by have:=HCK.out;omega) HN.out.2.1.1 HN.out.2.1.2.1 HN.out.2.1.2.2 PGR hs (by have h9:cr.length≤253:=Oy PGR;omega))
  refine (Dp (n:=n1) (cp:=ca) (pg:=(1,l1,cl)) J10.out.pt J10.out.tm (by have:=HCK.out;omega) (by have:=HCK.out;omega) HN.out.1.1 HN.out.1.2.1 HN.out.1.2.2 PGL NL10.out.ss (by have h9:cl.length≤253:=Oy PGL;omega)).mono ?_
  rintro en w11 ⟨rfl,X11,hp11,ht11⟩;have J11:=Ac (J10.out.turn ht11 hp11);have NR11:=Ac (NR10.out.turn ht11);clear hp11 ht11 J10 NL10 NR10 PGL PGR LRX;obtain ⟨y0,y1,y2,y3⟩:=NR11.out.hz.cells4
  go_wp2_with fail
  refine (SVR.out _ _ J11.out.pt J11.out.tm NR11.out.ss).mono ?_
  rintro en w12 ⟨rfl,X12,hp12,ht12⟩;have J12:=Ac (J11.out.turn ht12 hp12);clear hp12 ht12 J11 NR11 SVR y0 y1 y2 y3;have u9:u≤1000:=HUO.out.2.2.2
  have hcu:cells[u]? = some (Af itR):=by
   rw [← HCE.out,List.getElem?_map,List.getElem?_drop,HIT.out.1,List.getElem?_append_right (by rw [HIT.out.2.1];omega),HIT.out.2.1,show 1+u-u=1 by omega];rfl
  have hmu:u<mu:=by
   have hl:=J12.out.up.row.1;rw [Dt] at hl;have:=(List.getElem?_eq_some_iff.1 hcu).1;omega
  obtain ⟨gu,hgu⟩:=AL1 J12.out.up.row (by omega)
  subst hgu
  have hmi:(u:Int)<(mu:Int):=by omega
  have CLU:=Ac (fun W X (h:UpM W X pb o un ul ui mu cu (some ⟨gu,0,none⟩) cur cells)=>(show W.cell? ⟨gu,u,none⟩=some (.string (Af itR)) from by
   have:=h.row.cells (g:=gu) rfl u (.string (Af itR)) (by unfold strs;rw [List.getElem?_map,hcu];rfl)
   rw [addr_add,Nat.zero_add] at this;exact this))
  have FO:=Ac (fun W=>Jh n2 (by have:=HN.out;have:=HOK.out.few;omega) W)
  have CE:=Ac (fun W=>Ih ⟨key,Ak n2⟩ HSP.out.1 (by simp [Ak]) W)
  obtain ⟨F,hF⟩:∃ v,bsK (Ak n2)=v:=⟨_,rfl⟩;obtain ⟨CB,hCB⟩:∃ v,Af ⟨key,Ak n2⟩=v:=⟨_,rfl⟩;obtain ⟨KK,hKK⟩:∃ v,bsK key=v:=⟨_,rfl⟩;have hK2:bsK (⟨key,Ak n2⟩:It).k=KK:=hKK;have hF2:bsK (⟨key,Ak n2⟩:It).r=F:=hF;obtain ⟨vc,hvc⟩:∃ v,Af itR=v:=⟨_,rfl⟩;rw [hvc] at CLU;rw [hF] at FO;rw [hK2,hF2,hCB] at CE;clear hcu hmu hF hK2 hF2 hvc;rw [hKK];have HCB:=Ac hCB;clear hCB hKK;have p3:=J12.out.up.at5.2.2.2.1;have e0:=J12.out.jn.z8.cell 0
  have k0:=Ac (show w12.drew.cell? ⟨pb,o+3,none⟩=some (.slice (some ⟨gu,0,none⟩) mu cu)∧w12.drew.cell? ⟨b8,0,none⟩=some (.int .i64 n2) from ⟨(J12.out.below ((Below.refl w12.heap.size w12).drew)).up.at5.2.2.2.1,(J12.out.below ((Below.refl w12.heap.size w12).drew)).jn.z8.cell 0⟩)
  have NPG:Hid (pb≠gu∧b8≠gu):=Ac ⟨fun e=>(J12.out.up.rx gu rfl).2 e.symm,by have h2:=J12.out.zr gu rfl;have h3:=J12.out.jn.d;omega⟩
  go_wp2_with fail
  have wu:IntKind.i64.wrap (u:Int)=(u:Int):=IntWalk.i64_in _ ⟨by omega,by omega⟩
  go_region_held3 (fun w'=>w'.cell? ⟨pb,o+3,none⟩=some (.slice (some ⟨gu,0,none⟩) mu cu)∧w'.cell? ⟨b8,0,none⟩=some (.int .i64 n2)) (first | (with_reducible exact k3.out) | (with_reducible exact k2.out) | (with_reducible exact k1.out) | (with_reducible exact k0.out) | go_keep)
   (first
     | (go_at_call 134;(with_reducible refine (FO.out _).mono ?_);rintro en w13 ⟨rfl,hb13⟩;have J13:=Ac ((J12.out.below ((Below.refl w12.heap.size w12).drew)).below hb13);have k1:=Ac (show w13.cell? ⟨pb,o+3,none⟩=some (.slice (some ⟨gu,0,none⟩) mu cu)∧w13.cell? ⟨b8,0,none⟩=some (.int .i64 n2) from ⟨J13.out.up.at5.2.2.2.1,J13.out.jn.z8.cell 0⟩);clear hb13)
     | (go_at_call 133;(with_reducible refine (CE.out _).mono ?_);rintro en w14 ⟨rfl,hb14⟩;have J14:=Ac (J13.out.below hb14);have k2:=Ac (show w14.cell? ⟨pb,o+3,none⟩=some (.slice (some ⟨gu,0,none⟩) mu cu)∧w14.cell? ⟨b8,0,none⟩=some (.int .i64 n2) from ⟨J14.out.up.at5.2.2.2.1,J14.out.jn.z8.cell 0⟩);obtain ⟨curg,hcg⟩:=VK0 J14.out.up.row;have HCG:=Ac hcg;have rc:=CLU.out _ _ J14.out.up;have rf:=hcg.frozen;have rz:=hcg.lt;have k3:=Ac (show (w14.setCell ⟨gu,u,none⟩ (.string CB)).cell? ⟨pb,o+3,none⟩=some (.slice (some ⟨gu,0,none⟩) mu cu)∧(w14.setCell ⟨gu,u,none⟩ (.string CB)).cell? ⟨b8,0,none⟩=some (.int .i64 n2) from ⟨((J14.out.up.hb.far (p:=⟨gu,u,none⟩) NPG.out.1 (.string CB)).cell _).trans J14.out.up.c3,(J14.out.jn.z8.far (p:=⟨gu,u,none⟩) NPG.out.2 (.string CB)).cell 0⟩);clear hb14 hcg))
  go_wp2_with fail
  have gnx:some gu∉X12:=(J14.out.up.rx gu rfl).1;have pt15:PT (w14.setCell ⟨gu,u,none⟩ (.string CB)) X12 p ((S.set n1 (1,l1,cl)).set n2 (1,l2,cr)) S0 (c+2) (k+3):=J14.out.pt.set gnx u (.string CB);have tu15:=PT0 (pb:=pb) (vA:=.slice (some ⟨gu,0,none⟩) mu cu) J14.out.tu (grownBy_setCell (w:=w14) ⟨gu,u,none⟩ (.string CB))
  have row15:(w14.setCell ⟨gu,u,none⟩ (.string CB)).ownsRow 0 9 1 (.slice (some ⟨gu,0,none⟩) mu cu) mu (strs (cells.set u CB)):=by
   have q:=PF0 J14.out.up.row u (.string CB);rw [HA0] at q;exact q
  have up15:UpM (w14.setCell ⟨gu,u,none⟩ (.string CB)) X12 pb o un ul ui mu cu (some ⟨gu,0,none⟩) cur (cells.set u CB) :=
   ⟨J14.out.up.hb.far (p:=⟨gu,u,none⟩) NPG.out.1 (.string CB),J14.out.up.c0,J14.out.up.c1,J14.out.up.c2,J14.out.up.c3,J14.out.up.c4,J14.out.up.nb,row15,J14.out.up.rx⟩
  have CL:(cells.set u CB).length=mu:=by
   have hl:=up15.row.1;rw [Dt] at hl;omega
  have tu16:Turn (some pb :: (Value.slice (some ⟨gu,0,none⟩) mu cu).ownBlock :: X) (some pb :: (Value.slice (some ⟨gu,0,none⟩) (cells.set u CB).length cu).ownBlock :: X12) w (w14.setCell ⟨gu,u,none⟩ (.string CB)):=by rw [CL];exact tu15
  have up16:UpM (w14.setCell ⟨gu,u,none⟩ (.string CB)) X12 pb o un ul ui (cells.set u CB).length cu (some ⟨gu,0,none⟩) (cur.setIfInBounds (o+3) (.slice (some ⟨gu,0,none⟩) (cells.set u CB).length cu)) (cells.set u CB):=by rw [CL,IK0 J14.out.up.c3];exact up15
  have ws16:∀ g,(Value.slice (some ⟨gu,0,none⟩) (cells.set u CB).length cu).ownBlock=some g→(Value.slice (some ⟨gu,0,none⟩) mu cu).ownBlock=some g∨w.heap.size≤g:=fun g hg=>.inl hg
  have FIN0:Tq w X p pb o un ul ui (.slice (some ⟨gu,0,none⟩) mu cu) cur ((S.set n1 (1,l1,cl)).set n2 (1,l2,cr)) S0 (c+2) (k+3) (cells.set u CB) (.returned (.tuple #[])) (w14.setCell ⟨gu,u,none⟩ (.string CB)):=⟨rfl,X12,some ⟨gu,0,none⟩,cu,pt15,tu16,up16,ws16⟩
  have CE9:cells.set u (Af ⟨key,Ak n2⟩)=cells.set u CB:=by rw [HCB.out]
  rw [← CE9] at FIN0;have FIN:=Ac FIN0;clear FIN0 tu16 up16 ws16 CE9 pt15 tu15 up15 row15 CL gnx
  go_end0
  exact FIN.out
theorem MH0 {w:World} {X:List (Option Nat)} {tb p root c k pb o un u ui mu cu n0 l0 c0 n1 l1 n2 l2:Nat} {Au A0:Option Addr} {cur:Array Value} {S S0:St} {its U V:List It} {itL itR:It} {s0 s1 s2 bs:List ByteArray} {cl cr:List ByteArray} {key:Ky} {lr:Nat}
 (h:PT w X p S S0 c k) (ht:TM w X tb p root) (hc:c+10≤60000) (hk:k≤800000000)
 (hu:UpM w X pb o un (Dz (its.headD ⟨[],[]⟩).r) ui mu cu Au cur ((its.drop 1).map Af)) (hits:its=U++itL :: itR :: V) (hU:U.length=u) (hu9:u≤1000) (hw:LX0 its) (hl4:itL.r=Ak n1) (hr4:itR.r=Ak n2) (hm:mu≤1000) (ho:o≤1000) (ho2:o+3<cur.size)
 (hs0:SS w A0 s0.length s0) (hx0:∀ a,A0=some a→some a.block∉X∧a.block<w.heap.size)
 (hside:(ui=u+1∧n2=n0∧l2=l0∧s2=s0∧S.G n1=(2,l1,s1))∨(ui=0∧u=0∧n1=n0∧l1=l0∧s1=s0∧S.G n2=(2,l2,s2)))
 (h1:s1.length≤1000) (h2:s2.length≤1000) (hn1:0<n1∧n1<S.q∧n1∉S.fr) (hn2:0<n2∧n2<S.q∧n2∉S.fr) (h12:n1≠n2) (hl1:l1≤2147483647) (hl2:l2≤2147483647) (hbs:s1++Af ⟨itR.k,Ak l2⟩ :: s2=bs) (hfit:1012<Be bs∧Be bs≤100000) (hkey:key.length≤200) (hcl:Be cl≤1012) (hcr:Be cr≤1012) (hlr:lr≤2147483647)
 (SPL:∀ W A c,SS W A bs.length bs→bs.length≤c→c≤9223372036854775807→Calls Tryz.prog 143 #[.pointer (some ⟨tb,0,none⟩),.agg #[.int .i64 n1,.int .i64 2,.int .i64 l1,.slice A bs.length c]] W (Vy W n1 2 l1 lr (bsK key) cl cr)) :
 Calls Tryz.prog 145 #[.pointer (some ⟨tb,0,none⟩),.pointer (some ⟨pb,o,none⟩),.agg #[.int .i64 n0,.int .i64 2,.int .i64 l0,.slice A0 s0.length c0]] w
  (Tq w X p pb o un (Dz (its.headD ⟨[],[]⟩).r) ui (.slice Au mu cu) cur ((S.set n1 (2,l1,cl)).set n2 (2,lr,cr)) S0 (c+2) (k+3) (((its.drop 1).map Af).set u (Af ⟨key,Ak n2⟩))):=by
 have hok:=h.ok;have HP:=Ac h;have HT:=Ac ht;have HCK:=Ac (And.intro hc hk);have HU:=Ac hu;have HSD:=Ac hside;have HN:=Ac (And.intro hn1 (And.intro hn2 h12));have HL:=Ac (And.intro h1 (And.intro h2 (And.intro hl1 hl2)));have HFIT:=Ac hfit;have HBS:=Ac hbs;have HSP:=Ac (And.intro hkey (And.intro hcl (And.intro hcr hlr)));have SP:=Ac SPL;have HUO:=Ac (And.intro hm (And.intro ho (And.intro ho2 hu9)))
 have HOK:=Ac hok;have HIT:=Ac (And.intro hits (And.intro hU (And.intro hw (And.intro hl4 hr4))));obtain ⟨ul,hul⟩:∃ x,Dz (its.headD ⟨[],[]⟩).r=x:=⟨_,rfl⟩;have HUL:=Ac hul;rw [hul] at HU hu ⊢;obtain ⟨cells,hce⟩:∃ x,(its.drop 1).map Af=x:=⟨_,rfl⟩;have HCE:=Ac hce;rw [hce] at HU hu ⊢;obtain ⟨g0,g1,g2,g3,g4⟩:=hu.at5;obtain ⟨iv,hiv⟩:∃ iv:Int,iv=(ui:Int):=⟨_,rfl⟩;rw [← hiv] at g4;have HIV:=Ac hiv;have gf:=hu.hb.frozen
 have gz:=hu.hb.lt;have ltx:=Ac h.lt;have HS0:=Ac (And.intro hs0 hx0);clear h ht hc hk hok hu hul hce hs0 hx0 hits hU hw hl4 hr4 hside hn1 hn2 h12 h1 h2 hl1 hl2 hfit hm ho ho2 hu9 hiv hbs hkey hcl hcr hlr SPL
 go_enter Tryz.func145,Tryz.ntmps145
 go_upto_if 18 with fail
 have BX0:=(Has.new w 116 #[.int .i64 n0,.int .i64 2,.int .i64 l0,.slice A0 s0.length c0]);have BX7:=(Has.new (w.alloc (.cells #[.int .i64 n0,.int .i64 2,.int .i64 l0,.slice A0 s0.length c0] 116)) 116 #[.int .i64 0,.int .i64 0,.int .i64 0,.slice none 0 0]);have BX8:=(Has.new ((w.alloc (.cells #[.int .i64 n0,.int .i64 2,.int .i64 l0,.slice A0 s0.length c0] 116)).alloc (.cells #[.int .i64 0,.int .i64 0,.int .i64 0,.slice none 0 0] 116)) 116 #[.int .i64 0,.int .i64 0,.int .i64 0,.slice none 0 0])
 simp only [World.size_alloc] at BX7 BX8
 have B3:=(((Below.refl w.heap.size w).alloc (Nat.le_refl _) (.cells #[.int .i64 n0,.int .i64 2,.int .i64 l0,.slice A0 s0.length c0] 116)).alloc (by simp) (.cells #[.int .i64 0,.int .i64 0,.int .i64 0,.slice none 0 0] 116)).alloc (by simp;omega) (.cells #[.int .i64 0,.int .i64 0,.int .i64 0,.slice none 0 0] 116)
 have R0:=Ac ((BX0.alloc (.cells #[.int .i64 0,.int .i64 0,.int .i64 0,.slice none 0 0] 116)).alloc (.cells #[.int .i64 0,.int .i64 0,.int .i64 0,.slice none 0 0] 116));have R7:=Ac (BX7.alloc (.cells #[.int .i64 0,.int .i64 0,.int .i64 0,.slice none 0 0] 116));have R8:=Ac BX8;have HB3:=Ac B3;clear BX0 BX7 BX8 B3
 generalize (((w.alloc (.cells #[.int .i64 n0,.int .i64 2,.int .i64 l0,.slice A0 s0.length c0] 116)).alloc (.cells #[.int .i64 0,.int .i64 0,.int .i64 0,.slice none 0 0] 116)).alloc (.cells #[.int .i64 0,.int .i64 0,.int .i64 0,.slice none 0 0] 116))=W3 at *
 have P3:=Ac (HP.out.below HB3.out);have M3:=Ac (HT.out.below HB3.out);have Q3:=Ac (HU.out.below HB3.out);have U3:=Ac (Turn.below X HB3.out)
 have NX:Hid (∀ i,w.heap.size≤i→some i∉X):=Ac (fun i hi hm=>by have:=ltx.out _ hm;omega)
 clear g0 g1 g2 g3 g4 gf
 go_cut [6,7,8] (fun v6 v7 v8 wx=>FD1 w X tb p root c (k+1) pb o un ul ui mu cu u n1 n2 2 l1 l2 Au cur cells s1 s2 S S0 v6 v7 v8 wx)
 case first =>
  obtain hsd:=HSD.out
  rcases hsd with ⟨hui,rfl,rfl,rfl,hG⟩ | ⟨hui,rfl,rfl,rfl,rfl,hG⟩
  ·have LD:=Ac (fun W (h:PT W X p S S0 c k) (ht:TM W X tb p root)=>Gg (n:=n1) h ht (by have:=HCK.out;omega) (by have:=HCK.out;omega) (by have:=HN.out;omega) (HOK.out.pg _ (by have:=HN.out;omega)) (by rw [hG];simp))
   rw [hG] at LD
   have KD0:=(fun W (h:SS W Au mu ((its.drop 1).map Af))=>Ie un mu cu Au its W HIT.out.1 h HIT.out.2.2.1 (by rw [HIT.out.2.2.2.1];rfl) (by have:=HUO.out;omega))
   rw [HIT.out.2.2.2.1,Du (by have:=HOK.out.few;have:=HN.out;omega),HIT.out.2.1,HUL.out,HCE.out] at KD0
   have i0:(0:Int)<(u:Int)+1:=by omega
   have wu:IntKind.i64.wrap (u:Int)=(u:Int):=IntWalk.i64_in _ ⟨by omega,by have:=HIT.out.2.1;have:=HUO.out;omega⟩
   have KD1:=Ac KD0
   obtain rfl:iv=(u:Int)+1:=by have:=HIV.out;omega
   clear KD0 hG hui;obtain ⟨g0,g1,g2,g3,g4⟩:=Q3.out.at5;have gf:=Q3.out.hb.frozen;have gz3:=Q3.out.hb.lt;obtain ⟨r0,r1,r2,r3⟩:=R0.out.cells4;have rz:=R0.out.lt
   go_upto_region 4 with fail
   have k3:=Ac (at8 (R0.out.drew) (Q3.out.below ((Below.refl W3.heap.size W3).drew)))
   have NA:Hid (∀ g,w.heap.size≤g→∀ k,(Value.slice Au mu cu).ownBlock=some k→k≠g):=Ac (fun g hg k hk e=>by have:=(HU.out.row.lt k hk).2;omega)
   have N07:Hid (w.heap.size≠w.heap.size+1):=Ac (by omega)
   have N08:Hid (w.heap.size≠w.heap.size+1+1):=Ac (by omega)
   have N7:Hid (pb≠w.heap.size+1):=Ac (by omega)
   have N8:Hid (pb≠w.heap.size+1+1):=Ac (by omega)
   have NA7:=Ac (NA.out (w.heap.size+1) (Nat.le_succ _))
   have NA8:=Ac (NA.out (w.heap.size+1+1) (by omega))
   have KD4:=Ac (fun W (h:Below W3.heap.size W3 W) (y:Int) (hy:y=u)=>by have q:=KD1.out W (Q3.out.below h).ss;rw [← hy] at q;exact q)
   go_region_held3 (fun w'=>w'.cell? ⟨w.heap.size,0,none⟩=some (.int .i64 n2)∧w'.cell? ⟨w.heap.size,1,none⟩=some (.int .i64 2)∧w'.cell? ⟨w.heap.size,2,none⟩=some (.int .i64 l2)∧w'.cell? ⟨w.heap.size,3,none⟩=some (.slice A0 s2.length c0)∧w'.cell? ⟨pb,o,none⟩=some (.int .i64 un)∧w'.cell? ⟨pb,o+1,none⟩=some (.int .i64 2)∧w'.cell? ⟨pb,o+2,none⟩=some (.int .i64 ul)∧w'.cell? ⟨pb,o+3,none⟩=some (.slice Au mu cu)) (first | (with_reducible exact k7.out) | (with_reducible exact k6.out) | (with_reducible exact k5.out) | (with_reducible exact k4.out) | (with_reducible exact k3.out) | go_keep)
    (first
      | (go_at_call 132;(with_reducible refine (KD4.out _ ((Below.refl _ _).drew) _ (by first | exact wu | (rw [wu]) | omega)).mono ?_);rintro en w4 ⟨rfl,hb4⟩;have B4:=Ac (show Below W3.heap.size W3 w4 from ((Below.refl W3.heap.size W3).drew).trans (show Below W3.heap.size W3.drew w4 from hb4));have H4:=Ac (R0.out.Aj (((Below.refl W3.heap.size W3).drew).trans hb4));have Q4:=Ac (Q3.out.below (((Below.refl W3.heap.size W3).drew).trans hb4));have k4:=Ac (at8 H4.out Q4.out);clear hb4)
      | (go_at_call 62;(with_reducible refine (LD.out _ (P3.out.below B4.out) (M3.out.below B4.out)).mono ?_);rintro en w5 ⟨A1,c1,X5,rfl,hp5,ht5,ho5,hq5⟩;have P5:=Ac hp5;have T5:=Ac (((Turn.below X B4.out).trans ht5));have O5:=Ac ho5;have Z5:=Ac hq5;have G0:=Ac (T5.out.has R0.out (NX.out _ (Nat.le_refl _)));have Q5:=Ac (Q3.out.turn T5.out);have k5:=Ac (at8 G0.out Q5.out);have H6:=Ac (Bl G0.out N07.out (.int .i64 n1) (.int .i64 2) (.int .i64 l1) (.slice A1 s1.length c1));have Q6:=Ac (UpM.Ij Q5.out N7.out NA7.out (.int .i64 n1) (.int .i64 2) (.int .i64 l1) (.slice A1 s1.length c1));have k6:=Ac (at8 H6.out Q6.out);have H7:=Ac (Bl H6.out N08.out (.int .i64 n2) (.int .i64 2) (.int .i64 l2) (.slice A0 s2.length c0));have Q7:=Ac (UpM.Ij Q6.out N8.out NA8.out (.int .i64 n2) (.int .i64 2) (.int .i64 l2) (.slice A0 s2.length c0));have k7:=Ac (at8 H7.out Q7.out);have y7:=(T5.out.has R7.out (NX.out _ (Nat.le_succ _))).lt;have f7:=(T5.out.has R7.out (NX.out _ (Nat.le_succ _))).frozen;have y8:=(T5.out.has R8.out (NX.out _ (by omega))).lt;have f8:=(T5.out.has R8.out (NX.out _ (by omega))).frozen;obtain ⟨a0,a1,a2,a3⟩:=(T5.out.has R7.out (NX.out _ (Nat.le_succ _))).cells4;obtain ⟨d0,d1,d2,d3⟩:=(T5.out.has R8.out (NX.out _ (by omega))).cells4;clear hp5 ht5 ho5 hq5))
   go_wp2_with fail
   go_meet
   have o7:some (w.heap.size+1)∉X5:=T5.out.out (NX.out _ (Nat.le_succ _)) R7.out.lt
   have o8:some (w.heap.size+1+1)∉X5:=T5.out.out (NX.out _ (by omega)) R8.out.lt
   have tb7:tb≠w.heap.size+1:=by have:=HT.out.has.lt;omega
   have tb8:tb≠w.heap.size+1+1:=by have:=HT.out.has.lt;omega
   have ge7:w.heap.size≤w.heap.size+1:=Nat.le_succ _
   have ge8:w.heap.size≤w.heap.size+1+1:=by omega
   have h7:=T5.out.has R7.out (NX.out _ (Nat.le_succ _))
   have h8:=T5.out.has R8.out (NX.out _ (by omega))
   have d78:w.heap.size+1≠w.heap.size+1+1:=by omega
   have ssl:=SS.Dv O5.out
   have ssa:=(HS0.out.1.keep HB3.out).stay T5.out.size fun a e=>T5.out.block _ (Nat.lt_of_lt_of_le (HS0.out.2 a e).2 HB3.out.size) (HS0.out.2 a e).1
   have bs:=B4.out.size;have rz8:=R8.out.lt;have s3:=HB3.out.size;have s5:=T5.out.size
   have xl:∀ a,A1=some a→some a.block∉X5∧a.block<w5.heap.size∧a.block≠w.heap.size+1∧a.block≠w.heap.size+1+1:=fun a e=>by
    subst e;have q:=O5.out.lt a.block rfl
    exact ⟨Z5.out a.block rfl,q.2,by omega,by omega⟩
   have xa:∀ a,A0=some a→some a.block∉X5∧a.block<w5.heap.size∧a.block≠w.heap.size+1∧a.block≠w.heap.size+1+1:=fun a e=>by
    have q:=HS0.out.2 a e
    exact ⟨T5.out.out q.1 (by omega),by omega,by omega,by omega⟩
   have hz7:((((((((w5.setCell ⟨w.heap.size+1,0,none⟩ (.int .i64 n1)).setCell ⟨w.heap.size+1,1,none⟩ (.int .i64 2)).setCell ⟨w.heap.size+1,2,none⟩ (.int .i64 l1)).setCell ⟨w.heap.size+1,3,none⟩ (.slice A1 s1.length c1)).setCell ⟨w.heap.size+1+1,0,none⟩ (.int .i64 n2)).setCell ⟨w.heap.size+1+1,1,none⟩ (.int .i64 2)).setCell ⟨w.heap.size+1+1,2,none⟩ (.int .i64 l2)).setCell ⟨w.heap.size+1+1,3,none⟩ (.slice A0 s2.length c0)).heap.size=w5.heap.size:=by simp
   have tbl:=HT.out.has.lt;have pbl:=HU.out.hb.lt
   refine ⟨rfl,_,_,X5,A1,A0,c1,c0,_,rfl,rfl,rfl,⟨((P5.out.Me o7).Me o8),(((M3.out.turn T5.out).Me tb7).Me tb8),Q7.out,(((U3.out.trans T5.out).Ho ge7).Ho ge8),⟨Bl (Fq h7 _ _ _ _) d78 _ _ _ _,Fq (Bl h8 d78.symm _ _ _ _) _ _ _ _,o7,o8,Nat.lt_succ_self _,(ssl.Ij (fun a e=>(xl a e).2.2.1) _ _ _ _).Ij (fun a e=>(xl a e).2.2.2) _ _ _ _,(ssa.Ij (fun a e=>(xa a e).2.2.1) _ _ _ _).Ij (fun a e=>(xa a e).2.2.2) _ _ _ _,fun a e=>⟨(xl a e).1,by rw [hz7];exact (xl a e).2.1,(xl a e).2.2⟩,fun a e=>⟨(xa a e).1,by rw [hz7];exact (xa a e).2.1,(xa a e).2.2⟩⟩,by rw [hz7];omega,by rw [hz7];omega,by rw [hz7];omega,fun g hg=>by rw [hz7];exact (Q5.out.row.lt g hg).2,fun g hg=>by have:=(HU.out.row.lt g hg).2;omega,fun a e=>by rw [hz7];exact (xl a e).2.1,fun a e=>by rw [hz7];exact (xa a e).2.1,by rw [hz7];omega,Nat.le_refl _⟩⟩
  ·have LD:=Ac (fun W (h:PT W X p S S0 c k) (ht:TM W X tb p root)=>Gg (n:=n2) h ht (by have:=HCK.out;omega) (by have:=HCK.out;omega) (by have:=HN.out;omega) (HOK.out.pg _ (by have:=HN.out;omega)) (by rw [hG];simp))
   rw [hG] at LD
   have KD0:=(fun W (h:SS W Au mu ((its.drop 1).map Af))=>Ie un mu cu Au its W (U:=U++[itL]) (it:=itR) (V:=V) (by rw [HIT.out.1];simp) h HIT.out.2.2.1 (by rw [HIT.out.2.2.2.2];rfl) (by have:=HUO.out;omega))
   have hU1:(U++[itL]).length=1:=by rw [List.length_append,HIT.out.2.1];rfl
   rw [HIT.out.2.2.2.2,Du (by have:=HOK.out.few;have:=HN.out;omega),hU1,HUL.out,HCE.out] at KD0
   have KD1:=Ac KD0
   obtain rfl:iv=0:=by have:=HIV.out;omega
   clear KD0 hG hui;obtain ⟨g0,g1,g2,g3,g4⟩:=Q3.out.at5;have gf:=Q3.out.hb.frozen;have gz3:=Q3.out.hb.lt;obtain ⟨r0,r1,r2,r3⟩:=R0.out.cells4;have rz:=R0.out.lt
   go_upto_region 6 with fail
   have k3:=Ac (at8 (R0.out.drew) (Q3.out.below ((Below.refl W3.heap.size W3).drew)))
   have NA:Hid (∀ g,w.heap.size≤g→∀ k,(Value.slice Au mu cu).ownBlock=some k→k≠g):=Ac (fun g hg k hk e=>by have:=(HU.out.row.lt k hk).2;omega)
   have N07:Hid (w.heap.size≠w.heap.size+1):=Ac (by omega)
   have N08:Hid (w.heap.size≠w.heap.size+1+1):=Ac (by omega)
   have N7:Hid (pb≠w.heap.size+1):=Ac (by omega)
   have N8:Hid (pb≠w.heap.size+1+1):=Ac (by omega)
   have NA7:=Ac (NA.out (w.heap.size+1) (Nat.le_succ _))
   have NA8:=Ac (NA.out (w.heap.size+1+1) (by omega))
   have KD4:=Ac (fun W (h:Below W3.heap.size W3 W) (y:Int) (hy:y=((1:Nat):Int))=>by have q:=KD1.out W (Q3.out.below h).ss;rw [← hy] at q;exact q)
   go_region_held3 (fun w'=>w'.cell? ⟨w.heap.size,0,none⟩=some (.int .i64 n1)∧w'.cell? ⟨w.heap.size,1,none⟩=some (.int .i64 2)∧w'.cell? ⟨w.heap.size,2,none⟩=some (.int .i64 l1)∧w'.cell? ⟨w.heap.size,3,none⟩=some (.slice A0 s1.length c0)∧w'.cell? ⟨pb,o,none⟩=some (.int .i64 un)∧w'.cell? ⟨pb,o+1,none⟩=some (.int .i64 2)∧w'.cell? ⟨pb,o+2,none⟩=some (.int .i64 ul)∧w'.cell? ⟨pb,o+3,none⟩=some (.slice Au mu cu)) (first | (with_reducible exact k7.out) | (with_reducible exact k6.out) | (with_reducible exact k5.out) | (with_reducible exact k4.out) | (with_reducible exact k3.out) | go_keep)
    (first
      | (go_at_call 132;(with_reducible refine (KD4.out _ ((Below.refl _ _).drew) _ (by omega)).mono ?_);rintro en w4 ⟨rfl,hb4⟩;have B4:=Ac (show Below W3.heap.size W3 w4 from ((Below.refl W3.heap.size W3).drew).trans (show Below W3.heap.size W3.drew w4 from hb4));have H4:=Ac (R0.out.Aj (((Below.refl W3.heap.size W3).drew).trans hb4));have Q4:=Ac (Q3.out.below (((Below.refl W3.heap.size W3).drew).trans hb4));have k4:=Ac (at8 H4.out Q4.out);clear hb4)
      | (go_at_call 62;(with_reducible refine (LD.out _ (P3.out.below B4.out) (M3.out.below B4.out)).mono ?_);rintro en w5 ⟨A1,c1,X5,rfl,hp5,ht5,ho5,hq5⟩;have P5:=Ac hp5;have T5:=Ac (((Turn.below X B4.out).trans ht5));have O5:=Ac ho5;have Z5:=Ac hq5;have G0:=Ac (T5.out.has R0.out (NX.out _ (Nat.le_refl _)));have Q5:=Ac (Q3.out.turn T5.out);have k5:=Ac (at8 G0.out Q5.out);have H6:=Ac (Bl G0.out N07.out (.int .i64 n1) (.int .i64 2) (.int .i64 l1) (.slice A0 s1.length c0));have Q6:=Ac (UpM.Ij Q5.out N7.out NA7.out (.int .i64 n1) (.int .i64 2) (.int .i64 l1) (.slice A0 s1.length c0));have k6:=Ac (at8 H6.out Q6.out);have H7:=Ac (Bl H6.out N08.out (.int .i64 n2) (.int .i64 2) (.int .i64 l2) (.slice A1 s2.length c1));have Q7:=Ac (UpM.Ij Q6.out N8.out NA8.out (.int .i64 n2) (.int .i64 2) (.int .i64 l2) (.slice A1 s2.length c1));have k7:=Ac (at8 H7.out Q7.out);have y7:=(T5.out.has R7.out (NX.out _ (Nat.le_succ _))).lt;have f7:=(T5.out.has R7.out (NX.out _ (Nat.le_succ _))).frozen;have y8:=(T5.out.has R8.out (NX.out _ (by omega))).lt;have f8:=(T5.out.has R8.out (NX.out _ (by omega))).frozen;obtain ⟨a0,a1,a2,a3⟩:=(T5.out.has R7.out (NX.out _ (Nat.le_succ _))).cells4;obtain ⟨d0,d1,d2,d3⟩:=(T5.out.has R8.out (NX.out _ (by omega))).cells4;clear hp5 ht5 ho5 hq5))
   go_wp2_with fail
   go_meet
   have o7:some (w.heap.size+1)∉X5:=T5.out.out (NX.out _ (Nat.le_succ _)) R7.out.lt
   have o8:some (w.heap.size+1+1)∉X5:=T5.out.out (NX.out _ (by omega)) R8.out.lt
   have tb7:tb≠w.heap.size+1:=by have:=HT.out.has.lt;omega
   have tb8:tb≠w.heap.size+1+1:=by have:=HT.out.has.lt;omega
   have ge7:w.heap.size≤w.heap.size+1:=Nat.le_succ _
   have ge8:w.heap.size≤w.heap.size+1+1:=by omega
   have h7:=T5.out.has R7.out (NX.out _ (Nat.le_succ _))
   have h8:=T5.out.has R8.out (NX.out _ (by omega))
   have d78:w.heap.size+1≠w.heap.size+1+1:=by omega
   have ssl:=SS.Dv O5.out
   have ssa:=(HS0.out.1.keep HB3.out).stay T5.out.size fun a e=>T5.out.block _ (Nat.lt_of_lt_of_le (HS0.out.2 a e).2 HB3.out.size) (HS0.out.2 a e).1
   have bs:=B4.out.size;have rz8:=R8.out.lt;have s3:=HB3.out.size;have s5:=T5.out.size
   have xl:∀ a,A1=some a→some a.block∉X5∧a.block<w5.heap.size∧a.block≠w.heap.size+1∧a.block≠w.heap.size+1+1:=fun a e=>by
    subst e;have q:=O5.out.lt a.block rfl
    exact ⟨Z5.out a.block rfl,q.2,by omega,by omega⟩
   have xa:∀ a,A0=some a→some a.block∉X5∧a.block<w5.heap.size∧a.block≠w.heap.size+1∧a.block≠w.heap.size+1+1:=fun a e=>by
    have q:=HS0.out.2 a e
    exact ⟨T5.out.out q.1 (by omega),by omega,by omega,by omega⟩
   have hz7:((((((((w5.setCell ⟨w.heap.size+1,0,none⟩ (.int .i64 n1)).setCell ⟨w.heap.size+1,1,none⟩ (.int .i64 2)).setCell ⟨w.heap.size+1,2,none⟩ (.int .i64 l1)).setCell ⟨w.heap.size+1,3,none⟩ (.slice A0 s1.length c0)).setCell ⟨w.heap.size+1+1,0,none⟩ (.int .i64 n2)).setCell ⟨w.heap.size+1+1,1,none⟩ (.int .i64 2)).setCell ⟨w.heap.size+1+1,2,none⟩ (.int .i64 l2)).setCell ⟨w.heap.size+1+1,3,none⟩ (.slice A1 s2.length c1)).heap.size=w5.heap.size:=by simp
   have tbl:=HT.out.has.lt;have pbl:=HU.out.hb.lt
   refine ⟨rfl,_,_,X5,A0,A1,c0,c1,_,rfl,rfl,rfl,⟨((P5.out.Me o7).Me o8),(((M3.out.turn T5.out).Me tb7).Me tb8),Q7.out,(((U3.out.trans T5.out).Ho ge7).Ho ge8),⟨Bl (Fq h7 _ _ _ _) d78 _ _ _ _,Fq (Bl h8 d78.symm _ _ _ _) _ _ _ _,o7,o8,Nat.lt_succ_self _,(ssa.Ij (fun a e=>(xa a e).2.2.1) _ _ _ _).Ij (fun a e=>(xa a e).2.2.2) _ _ _ _,(ssl.Ij (fun a e=>(xl a e).2.2.1) _ _ _ _).Ij (fun a e=>(xl a e).2.2.2) _ _ _ _,fun a e=>⟨(xa a e).1,by rw [hz7];exact (xa a e).2.1,(xa a e).2.2⟩,fun a e=>⟨(xl a e).1,by rw [hz7];exact (xl a e).2.1,(xl a e).2.2⟩⟩,by rw [hz7];omega,by rw [hz7];omega,by rw [hz7];omega,fun g hg=>by rw [hz7];exact (Q5.out.row.lt g hg).2,fun g hg=>by have:=(HU.out.row.lt g hg).2;omega,fun a e=>by rw [hz7];exact (xa a e).2.1,fun a e=>by rw [hz7];exact (xl a e).2.1,by rw [hz7];omega,Nat.le_refl _⟩⟩
 case rest =>
  obtain ⟨rfl,b7,b8,X1,A1,A2,c1,c2,z,rfl,rfl,hz,jx⟩:=hcut;have J0:=Ac jx;obtain ⟨a0,a1,a2,a3⟩:=jx.jn.z7.cells4;have az:=jx.jn.z7.lt;clear jx;clear R0 R7 R8 HB3 P3 M3 Q3 U3 NX HSD HIV HS0 HP HT HU
  go_wp2_with fail
  have q9:=Has.new wc 116 #[.int .i64 n1,.int .i64 2,.int .i64 l1,.slice A1 s1.length c1];have bq:=Ag wc (.cells #[.int .i64 n1,.int .i64 2,.int .i64 l1,.slice A1 s1.length c1] 116);have J1:=Ac (J0.out.below bq)
  have N1:Hid (some wc.heap.size∉X1):=Ac (fun hm=>by have:=J0.out.pt.lt _ hm;omega)
  have H9:=Ac q9;clear q9 bq J0 a0 a1 a2 a3 az
  generalize wc.alloc (.cells #[.int .i64 n1,.int .i64 2,.int .i64 l1,.slice A1 s1.length c1] 116)=W1 at *
  rw [← hz] at H9 N1 ⊢;clear hz
  refine (Gn J1.out.jn.r1 (by have:=HL.out;omega)).mono ?_
  rintro en w2 ⟨va,rfl,ho2,hb2⟩;obtain ⟨A9,c9,rfl,hc9⟩:=Bd ho2;have J2:=Ac (J1.out.below hb2);have H2:=Ac (H9.out.Aj hb2);have zz2:=J1.out.zz
  have NW3:Hid (Nw (w2.setCell ⟨z,3,none⟩ (.slice A9 s1.length c9)) X1 z z n1 2 l1 s1.length c9 A9 s1):=Ac ⟨Nat.le_refl _,H2.out.set 3 _,N1.out,Bf (own_base ho2 zz2) (fun g hg=>Below.heap_setCell _ _ _ _ (fun e=>by have e2:g=z:=e;have:=(ho2.lt g hg).1;have:=H9.out.lt;omega)),fun g hg=>⟨fun hm=>by have:=J1.out.pt.lt g hm;have:=(ho2.lt g hg).1;omega,fun e=>by have:=(ho2.lt g hg).1;have:=H9.out.lt;omega⟩⟩
  have J3:=Ac (J2.out.set (Nat.le_refl z) N1.out 3 (.slice A9 s1.length c9));obtain ⟨x0,x1,x2,x3⟩:=H2.out.cells4;have xf:=H2.out.frozen;have xz:=H2.out.lt;obtain ⟨a0,a1,a2,a3⟩:=J2.out.jn.z7.cells4;have az:=J2.out.jn.z7.lt;have d7:b7<z:=Nat.lt_trans J2.out.jn.d J2.out.z8;have d8:b8<z:=J2.out.z8;clear ho2 hb2 J1 H9 J2 H2 zz2
  go_wp2_with fail
  generalize w2.setCell ⟨z,3,none⟩ (.slice A9 s1.length c9)=W3 at *
  clear x0 x1 x2 x3 xf xz a0 a1 a2 a3 az
  refine (Jv n1 l1 (.slice A1 s1.length c1) W3).mono ?_
  rintro en w4 ⟨rfl,hb4⟩;have J4:=Ac (J3.out.below hb4);have NW4:=Ac (NW3.out.below hb4);obtain ⟨x0,x1,x2,x3⟩:=NW4.out.hz.cells4;obtain ⟨i0,hi0,hz0,hz1,hz2⟩:=info_parts Np;clear hb4 J3 NW3;have u9:u≤1000:=HUO.out.2.2.2
  have hcu:cells[u]? = some (Af itR):=by
   rw [← HCE.out,List.getElem?_map,List.getElem?_drop,HIT.out.1,List.getElem?_append_right (by rw [HIT.out.2.1];omega),HIT.out.2.1,show 1+u-u=1 by omega];rfl
  obtain ⟨gu,hgu⟩:∃ gu,Au=some ⟨gu,0,none⟩:=by
   rcases J4.out.up.row.2 with ⟨hv,h0⟩ | ⟨g,cap,cur',hv,_⟩
   ·exfalso
    have hl:=J4.out.up.row.1;rw [Dt] at hl;have:=(List.getElem?_eq_some_iff.1 hcu).1;omega
   ·injection hv with h2 _ _;exact ⟨g,h2⟩
  subst hgu
  have hmu:u<mu:=by
   have hl:=J4.out.up.row.1;rw [Dt] at hl;have:=(List.getElem?_eq_some_iff.1 hcu).1;omega
  have hmi:(u:Int)<(mu:Int):=by omega
  have CLU:=Ac (fun W X (h:UpM W X pb o un ul ui mu cu (some ⟨gu,0,none⟩) cur cells)=>(show W.cell? ⟨gu,u,none⟩=some (.string (Af itR)) from by
   have:=h.row.cells (g:=gu) rfl u (.string (Af itR)) (by unfold strs;rw [List.getElem?_map,hcu];rfl)
   rw [addr_add,Nat.zero_add] at this;exact this))
  have wR:itR.k.length≤200∧itR.r.length≤5000:=HIT.out.2.2.1 itR (by rw [HIT.out.1];simp)
  have KY:=Ac (fun W=>Po itR wR.1 wR.2 W)
  have FO:=Ac (fun W=>Jh l2 (by have:=HL.out;omega) W)
  have CE:=Ac (fun W=>Ih ⟨itR.k,Ak l2⟩ wR.1 (by simp [Ak]) W)
  obtain ⟨vc,hvc⟩:∃ v,Af itR=v:=⟨_,rfl⟩;obtain ⟨KR,hKR⟩:∃ v,bsK itR.k=v:=⟨_,rfl⟩;obtain ⟨F,hF⟩:∃ v,bsK (Ak l2)=v:=⟨_,rfl⟩;obtain ⟨CB,hCB⟩:∃ v,Af ⟨itR.k,Ak l2⟩=v:=⟨_,rfl⟩;have hK2:bsK (⟨itR.k,Ak l2⟩:It).k=KR:=hKR;have hF2:bsK (⟨itR.k,Ak l2⟩:It).r=F:=hF;rw [hvc] at CLU KY;rw [hKR] at KY;rw [hF] at FO;rw [hK2,hF2,hCB] at CE;obtain ⟨t1,ht1⟩:∃ t,s1++[CB]=t:=⟨_,rfl⟩
  have E9:=Ac (show t1++s2=bs by rw [← ht1,← hCB,← HBS.out,List.append_assoc];rfl)
  have HT1:=Ac ht1
  have TL:=Ac (show t1.length≤1001 by rw [← ht1,List.length_append];have:=HL.out;simp;omega)
  clear hcu hmu hvc hKR hF hCB hK2 hF2 wR ht1;obtain ⟨x0,x1,x2,x3⟩:=NW4.out.hz.cells4;obtain ⟨p0,p1,p2,p3,p4⟩:=J4.out.up.at5;obtain ⟨a0,a1,a2,a3⟩:=J4.out.jn.z8.cells4;have rc:=CLU.out _ _ J4.out.up;have xz:=NW4.out.hz.lt;have pz:=J4.out.up.hb.lt;have gz4:gu<w4.heap.size:=(J4.out.up.row.lt gu rfl).2;have bz:=J4.out.jn.z8.lt;clear gz ltx d7 d8
  go_wp2_with fail
  have wu:IntKind.i64.wrap (u:Int)=(u:Int):=IntWalk.i64_in _ ⟨by omega,by omega⟩
  refine Eo 20 (Cls (w4)) (EV1 z pb o gu u mu cu b8 l2 s1.length c9 A9 vc KR F CB) (by kernel_rfl) (by kernel_rfl) (by kernel_rfl) (fun _ _ hC hb=>Cls.step hC hb) ?hst (Cls.start _) ?hops ?hend
  case hst=>exact DA0 _ _ _ _ _ _ _ _ _ _ _ _ _ _ _ _
  case hops =>
   intro us wx hus hC
   obtain ⟨u0,u1,u2,u3,u4,u5,u6,u7,u8,u9,u10,u11,u12,u13,u14,u15,u16,u17,u18,u19,rfl⟩:∃ u0 u1 u2 u3 u4 u5 u6 u7 u8 u9 u10 u11 u12 u13 u14 u15 u16 u17 u18 u19,us=[u0,u1,u2,u3,u4,u5,u6,u7,u8,u9,u10,u11,u12,u13,u14,u15,u16,u17,u18,u19]:=by
    match us,hus with
    | [u0,u1,u2,u3,u4,u5,u6,u7,u8,u9,u10,u11,u12,u13,u14,u15,u16,u17,u18,u19],_=>exact ⟨u0,u1,u2,u3,u4,u5,u6,u7,u8,u9,u10,u11,u12,u13,u14,u15,u16,u17,u18,u19,rfl⟩
   clear hus;simp only [Bq,Act.put,List.take_succ_cons,List.take_zero,List.setIfInBounds_toArray,List.set_cons_zero,List.set_cons_succ]
   refine ⟨fun h=>?_,fun h=>?_,fun h=>?_,fun h=>?_,fun h=>?_,fun h=>?_,fun h=>?_,fun h=>?_,fun h=>?_,fun h=>?_,fun h=>?_,fun h=>?_,fun h=>?_,fun h=>?_,fun h=>?_,fun h=>?_,fun h=>?_,fun h=>?_,fun h=>?_,fun h=>?_,trivial⟩
   ·(clear h;refine Ae rfl ?_;go_simp;exact ⟨Below.refl _ _,rfl⟩)
   ·obtain rfl:=h 0 rfl
    (clear h;refine Ae rfl ?_;go_simp;exact ⟨Below.refl _ _,rfl⟩)
   ·obtain rfl:=h 1 rfl
    (clear h;refine Ae rfl ?_;obtain ⟨hc,hf⟩:=hC.facts;go_simp;exact ⟨Below.refl _ _,rfl⟩)
   ·(clear h;refine Ae rfl ?_;go_simp;exact ⟨Below.refl _ _,rfl⟩)
   ·obtain rfl:=h 3 rfl
    (clear h;refine Ae rfl ?_;go_simp;exact ⟨Below.refl _ _,rfl⟩)
   ·obtain rfl:=h 4 rfl
    (clear h;refine Ae rfl ?_;go_simp;exact ⟨Below.refl _ _,rfl⟩)
   ·obtain rfl:=h 5 rfl
    (clear h;refine Ae rfl ?_;go_simp;exact ⟨Below.refl _ _,rfl⟩)
   ·obtain rfl:=h 6 rfl
    (clear h;refine Ae rfl ?_;go_simp;exact ⟨Below.refl _ _,rfl⟩)
   ·obtain rfl:=h 7 rfl
    (clear h;refine Ae rfl ?_;obtain ⟨hc,hf⟩:=hC.facts;go_simp;exact ⟨Below.refl _ _,rfl⟩)
   ·(clear h;refine Ae rfl ?_;go_simp;exact ⟨Below.refl _ _,rfl⟩)
   ·obtain rfl:=h 9 rfl
    (clear h;refine Ae rfl ?_;go_simp;exact ⟨Below.refl _ _,rfl⟩)
   ·obtain rfl:=h 8 rfl
    obtain rfl:=h 10 rfl
    (clear h;refine Ae rfl ?_;go_simp;exact ⟨Below.refl _ _,rfl⟩)
   ·obtain rfl:=h 11 rfl
    (clear h;refine Ae rfl ?_;obtain ⟨hc,hf⟩:=hC.facts;go_simp;exact ⟨Below.refl _ _,rfl⟩)
   ·obtain rfl:=h 12 rfl
    (clear h;refine Ae rfl ?_;go_simp;refine (KY.out _).mono ?_;rintro e w1 ⟨rfl,rfl⟩;exact ⟨_,rfl,Below.refl _ _,rfl⟩)
   ·(clear h;refine Ae rfl ?_;go_simp;exact ⟨Below.refl _ _,rfl⟩)
   ·obtain rfl:=h 14 rfl
    (clear h;refine Ae rfl ?_;go_simp;exact ⟨Below.refl _ _,rfl⟩)
   ·obtain rfl:=h 15 rfl
    (clear h;refine Ae rfl ?_;obtain ⟨hc,hf⟩:=hC.facts;go_simp;exact ⟨Below.refl _ _,rfl⟩)
   ·obtain rfl:=h 16 rfl
    (clear h;refine Ae rfl ?_;go_simp;refine (FO.out _).mono ?_;rintro e w1 ⟨rfl,hb⟩;exact ⟨_,rfl,hb,rfl⟩)
   ·obtain rfl:=h 13 rfl
    obtain rfl:=h 17 rfl
    (clear h;refine Ae rfl ?_;go_simp;refine (CE.out _).mono ?_;rintro e w1 ⟨rfl,hb⟩;exact ⟨_,rfl,hb,rfl⟩)
   ·obtain rfl:=h 18 rfl
    (clear h;refine Ae rfl ?_;go_simp;exact ⟨(Below.refl _ _).alloc (Nat.le_refl _) _,_,rfl,Has.new _ _ _⟩)
  case hend =>
  intro us wx hus hC
  obtain ⟨u0,u1,u2,u3,u4,u5,u6,u7,u8,u9,u10,u11,u12,u13,u14,u15,u16,u17,u18,u19,rfl⟩:∃ u0 u1 u2 u3 u4 u5 u6 u7 u8 u9 u10 u11 u12 u13 u14 u15 u16 u17 u18 u19,us=[u0,u1,u2,u3,u4,u5,u6,u7,u8,u9,u10,u11,u12,u13,u14,u15,u16,u17,u18,u19]:=by
   match us,hus with
   | [u0,u1,u2,u3,u4,u5,u6,u7,u8,u9,u10,u11,u12,u13,u14,u15,u16,u17,u18,u19],_=>exact ⟨u0,u1,u2,u3,u4,u5,u6,u7,u8,u9,u10,u11,u12,u13,u14,u15,u16,u17,u18,u19,rfl⟩
  clear hus;intro hall;obtain ⟨h0,h1,h2,h3,h4,h5,h6,h7,h8,h9,h10,h11,h12,h13,h14,h15,h16,h17,h18,h19,_⟩:=hall;obtain ⟨gc,rfl,hgc⟩:=h19;obtain rfl:=h2;have J8:=Ac (J4.out.below hC.bel);have NW8:=Ac (NW4.out.below hC.bel)
  have NWS:=Ac (fun j u (hj:[Value.string CB][j]? = some u)=>(show wx.cell? ((⟨gc,0,none⟩:Addr).add j)=some u from by
   have hj0:j=0:=by have:=(List.getElem?_eq_some_iff.1 hj).1;simp at this;omega
   subst hj0
   have e:Value.string CB=u:=by simpa using hj
   rw [addr_add,← e];exact hgc.cell 0))
  clear h0 h1 h3 h4 h5 h6 h7 h8 h9 h10 h11 h12 h13 h14 h15 h16 h17 h18 hC hgc J4 NW4 x0 x1 x2 x3 p0 p1 p2 p3 p4 a0 a1 a2 a3 rc wu KY CLU xz pz gz4 bz FO CE;simp only [Bq,Act.put,List.take_succ_cons,List.take_zero,List.drop_succ_cons,List.drop_zero,List.setIfInBounds_toArray,List.set_cons_zero,List.set_cons_succ]
  go_upto_region 11 with (at_builtin;refine wpList_append_lies _ rfl (.tmp 49) (.tmp 66) 44 rfl z 9 i0 _ 1 16 Tryz.underlying44 hi0 hz0 hz1 hz2 rfl (by decide) (.slice A9 s1.length c9) s1.length (strs s1) rfl NW8.out.row _ 1 1 [.string CB] rfl rfl NWS.out (by simp [Value.oneCell']) (by have:=HL.out;omega) (by have:=HL.out;simp only [maxLen];omega) (by have:=HL.out;omega) (by have:=J8.out.zz;omega) _ rfl ?_;intro gg ct w7 hown7 hgrow7 hat7 hlt7;have HO7:=Ac hown7;have HG7:=Ac hgrow7;have HA7:=Ac hat7;have x7:=Ac (NW8.out.FA0 hgrow7);clear hown7 hgrow7 hat7;obtain ⟨x0,x1,x2,x3⟩:=x7.out.cells4;have xf:=x7.out.frozen;have xz:=x7.out.lt)
  have J9:=Ac ((J8.out.grown HG7.out (fun g hg=>⟨(NW8.out.row.lt g hg).1,(NW8.out.rx g hg).1⟩)).set (Nat.le_refl z) N1.out 3 (.slice (some ⟨gg,0,none⟩) t1.length ct))
  have NW9:=Ac (NW8.out.app (xs:=s1) (ys:=[CB]) (fun g hg=>J8.out.pt.lt g hg) (by rw [List.length_append];rfl) HO7.out HG7.out (HA7.out.elim (fun e=>.inl e.symm) fun e=>.inr (congrArg some e)))
  rw [HT1.out] at NW9
  rw [show s1.length+1=t1.length by rw [← HT1.out,List.length_append];rfl]
  clear x7 x0 x1 x2 x3 xf xz HO7 HG7 HA7 J8 NW8
  generalize w7.setCell ⟨z,3,none⟩ (.slice (some ⟨gg,0,none⟩) t1.length ct)=w4 at *
  have J4:=J9;have NW4:=NW9;clear J9 NW9;obtain ⟨x0,x1,x2,x3⟩:=NW4.out.hz.cells4;obtain ⟨a0,a1,a2,a3⟩:=J4.out.jn.z8.cells4
  have G1:Hid (t1.length+s2.length≤maxLen):=Ac (by have:=HL.out;have:=TL.out;unfold maxLen;omega)
  have G2:Hid ((t1.length+s2.length)*16≤140737488355328):=Ac (by have:=HL.out;have:=TL.out;omega)
  have G3:Hid (z≤w4.heap.size):=Ac J4.out.zz
  go_wp2_with (at_builtin;refine Dh _ rfl (.tmp 72) (.tmp 75) 44 44 rfl z 9 i0 _ 1 16 Tryz.underlying44 hi0 hz0 hz1 hz2 rfl (by decide) (.slice (some ⟨gg,0,none⟩) t1.length ct) t1.length (strs t1) rfl NW4.out.row (.slice A2 s2.length c2) s2.length (strs s2) rfl J4.out.jn.r2.src G1.out G2.out G3.out ?_;intro v5 w5 ho5 hg5 _ hat5;obtain ⟨A5,c5,rfl,hc5⟩:=Bd ho5;have HO5:=Ac ho5;have HG5:=Ac hg5;have HA5:=Ac hat5;have x5:=Ac (NW4.out.FA0 hg5);clear ho5 hg5 hat5 x0 x1 x2 x3 a0 a1 a2 a3;obtain ⟨x0,x1,x2,x3⟩:=x5.out.cells4;have xf:=x5.out.frozen;have xz:=x5.out.lt)
  have NW6:=Ac (NW4.out.app (fun g hg=>J4.out.pt.lt g hg) List.length_append.symm HO5.out HG5.out HA5.out)
  have J6:=Ac ((J4.out.grown HG5.out (fun g hg=>⟨(NW4.out.row.lt g hg).1,(NW4.out.rx g hg).1⟩)).set (Nat.le_refl z) N1.out 3 (.slice A5 (t1++s2).length c5))
  have HM:=Ac (show (t1++s2).length≤2001 by rw [List.length_append];have:=HL.out;have:=TL.out;omega)
  have CAP:=Ac (Xb NW6.out.row).2
  rw [show t1.length+s2.length=(t1++s2).length from List.length_append.symm]
  rw [E9.out] at NW6 J6 HM CAP ⊢;clear x5 x0 x1 x2 x3 xf xz HO5 HG5 HA5 J4 NW4 G1 G2 G3 hc5
  generalize w5.setCell ⟨z,3,none⟩ (.slice A5 bs.length c5)=W6 at *
  have US:=Ac (Gh A5 bs.length c5 bs W6 NW6.out.ss (by have:=HM.out;omega) (by have:=HFIT.out;omega))
  obtain ⟨us,hus⟩:∃ us,Be bs=us:=⟨_,rfl⟩;rw [hus] at US
  have u1:¬ (us:Int)≤1012:=by have:=HFIT.out;omega
  refine US.out.mono ?_
  rintro en w6 ⟨rfl,rfl⟩;clear US hus;obtain ⟨x0,x1,x2,x3⟩:=NW6.out.hz.cells4
  go_wp2_with fail
  refine (SP.out W6 A5 c5 NW6.out.ss CAP.out.1 CAP.out.2).mono ?_
  rintro en w7 ⟨va,vb,rfl,hoa,hob,hab,hb7⟩;obtain ⟨Aa,ca,rfl,hca⟩:=Bd hoa;obtain ⟨Ab,cb,rfl,hcb⟩:=Bd hob;have J7:=Ac (J6.out.below hb7);have ltX:=Ac J6.out.pt.lt;have z67:=Ac hb7.size;have OA:=Ac hoa;have OB:=Ac hob;have ZJ:=Ac J6.out.zz;clear x0 x1 x2 x3 hoa hob hb7 J6 NW6 hca hcb SP CAP HM;obtain ⟨a0,a1,a2,a3⟩:=J7.out.jn.z7.cells4;have az:=J7.out.jn.z7.lt;have e0:=J7.out.jn.z8.cell 0;have ez:=J7.out.jn.z8.lt
  go_wp2_with fail
  have HL9:=Has.new w7 116 #[.int .i64 n1,.int .i64 2,.int .i64 l1,.slice Aa cl.length ca];have HR9:=Has.new (w7.alloc (.cells #[.int .i64 n1,.int .i64 2,.int .i64 l1,.slice Aa cl.length ca] 116)) 116 #[.int .i64 n2,.int .i64 2,.int .i64 lr,.slice Ab cr.length cb];rw [World.size_alloc] at HR9
  have bq:=((Below.refl w7.heap.size w7).alloc (Nat.le_refl _) (.cells #[.int .i64 n1,.int .i64 2,.int .i64 l1,.slice Aa cl.length ca] 116)).alloc (by simp) (.cells #[.int .i64 n2,.int .i64 2,.int .i64 lr,.slice Ab cr.length cb] 116)
  have J8:=Ac (J7.out.below bq);have zz7:z≤w7.heap.size:=J7.out.zz
  have nX:∀ g,w7.heap.size≤g→some g∉X1:=fun g hg hm=>by have:=ltX.out g hm;have:=z67.out;omega
  have NL8:=Ac (Nw.mk2 (bs:=cl) (X:=X1) zz7 (nX _ (Nat.le_refl _)) (HL9.alloc (.cells #[.int .i64 n2,.int .i64 2,.int .i64 lr,.slice Ab cr.length cb] 116)) ((OA.out.alloc _).alloc _) ZJ.out ltX.out (fun g hg=>by have:=(OA.out.lt g hg).2;omega))
  have NR8:=Ac (Nw.mk2 (bs:=cr) (X:=X1) (Nat.le_succ_of_le zz7) (nX _ (Nat.le_succ _)) HR9 ((OB.out.alloc _).alloc _) ZJ.out ltX.out (fun g hg=>by have:=(OB.out.lt g hg).2;omega))
  have LRX:=Ac (show (∀ g,(Value.slice Aa cl.length ca).ownBlock=some g→g≠w7.heap.size+1)∧(∀ g,(Value.slice Ab cr.length cb).ownBlock=some g→g≠w7.heap.size) from ⟨fun g hg=>by have:=(OA.out.lt g hg).2;omega,fun g hg=>by have:=(OB.out.lt g hg).2;omega⟩)
  clear HL9 HR9 bq J7 nX OA OB ltX z67 ZJ a0 a1 a2 a3 az e0 ez zz7
  generalize (w7.alloc (.cells #[.int .i64 n1,.int .i64 2,.int .i64 l1,.slice Aa cl.length ca] 116)).alloc (.cells #[.int .i64 n2,.int .i64 2,.int .i64 lr,.slice Ab cr.length cb] 116)=W8 at *
  generalize hb10:w7.heap.size=b10 at *
  clear hb10
  refine (Jv n1 l1 (.slice A1 s1.length c1) W8).mono ?_
  rintro en w9 ⟨rfl,hb9⟩;have J9:=Ac (J8.out.below hb9);have NL9:=Ac (NL8.out.below hb9);have NR9:=Ac (NR8.out.below hb9);clear hb9 J8 NL8 NR8;obtain ⟨x0,x1,x2,x3⟩:=NL9.out.hz.cells4
  go_wp2_with fail
  have J10:=J9;have NL10:=NL9;have NR10:=NR9;clear x0 x1 x2 x3 J9 NL9 NR9
  have PGL:Qq (2,l1,cl):=⟨by show 1≤2;omega,by show 2≤5;omega,by have:=HL.out;show l1≤_;omega,HSP.out.2.1⟩
  have PGR:Qq (2,lr,cr):=⟨by show 1≤2;omega,by show 2≤5;omega,by have:=HL.out;have:=HSP.out;show lr≤_;omega,HSP.out.2.2.1⟩
  have SVR:=Ac (fun W X (h:PT W X p (S.set n1 (2,l1,cl)) S0 (c+1) (k+1+1)) (ht:TM W X tb p root) (hs:SS W Ab cr.length cr)=>Dp (n:=n2) (cp:=cb) (pg:=(2,lr,cr)) h ht (by have:=HCK.out;omega) (by have:=HCK.out;omega) HN.out.2.1.1 HN.out.2.1.2.1 HN.out.2.1.2.2 PGR hs (by have h9:cr.length≤253:=Oy PGR;omega))
  refine (Dp (n:=n1) (cp:=ca) (pg:=(2,l1,cl)) J10.out.pt J10.out.tm (by have:=HCK.out;omega) (by have:=HCK.out;omega) HN.out.1.1 HN.out.1.2.1 HN.out.1.2.2 PGL NL10.out.ss (by have h9:cl.length≤253:=Oy PGL;omega)).mono ?_
  rintro en w11 ⟨rfl,X11,hp11,ht11⟩;have J11:=Ac (J10.out.turn ht11 hp11);have NR11:=Ac (NR10.out.turn ht11);clear hp11 ht11 J10 NL10 NR10 PGL PGR LRX;obtain ⟨y0,y1,y2,y3⟩:=NR11.out.hz.cells4
  go_wp2_with fail
  refine (SVR.out _ _ J11.out.pt J11.out.tm NR11.out.ss).mono ?_
  rintro en w12 ⟨rfl,X12,hp12,ht12⟩;have J12:=Ac (J11.out.turn ht12 hp12);clear hp12 ht12 J11 NR11 SVR y0 y1 y2 y3;have u9:u≤1000:=HUO.out.2.2.2
  have hcu:cells[u]? = some (Af itR):=by
   rw [← HCE.out,List.getElem?_map,List.getElem?_drop,HIT.out.1,List.getElem?_append_right (by rw [HIT.out.2.1];omega),HIT.out.2.1,show 1+u-u=1 by omega];rfl
  have hmu:u<mu:=by
   have hl:=J12.out.up.row.1;rw [Dt] at hl;have:=(List.getElem?_eq_some_iff.1 hcu).1;omega
  have hmi:(u:Int)<(mu:Int):=by omega
  have CLU:=Ac (fun W X (h:UpM W X pb o un ul ui mu cu (some ⟨gu,0,none⟩) cur cells)=>(show W.cell? ⟨gu,u,none⟩=some (.string (Af itR)) from by
   have:=h.row.cells (g:=gu) rfl u (.string (Af itR)) (by unfold strs;rw [List.getElem?_map,hcu];rfl)
   rw [addr_add,Nat.zero_add] at this;exact this))
  have FO:=Ac (fun W=>Jh n2 (by have:=HN.out;have:=HOK.out.few;omega) W)
  have CE:=Ac (fun W=>Ih ⟨key,Ak n2⟩ HSP.out.1 (by simp [Ak]) W)
  obtain ⟨F,hF⟩:∃ v,bsK (Ak n2)=v:=⟨_,rfl⟩;obtain ⟨CB,hCB⟩:∃ v,Af ⟨key,Ak n2⟩=v:=⟨_,rfl⟩;obtain ⟨KK,hKK⟩:∃ v,bsK key=v:=⟨_,rfl⟩;have hK2:bsK (⟨key,Ak n2⟩:It).k=KK:=hKK;have hF2:bsK (⟨key,Ak n2⟩:It).r=F:=hF;obtain ⟨vc,hvc⟩:∃ v,Af itR=v:=⟨_,rfl⟩;rw [hvc] at CLU;rw [hF] at FO;rw [hK2,hF2,hCB] at CE;clear hcu hmu hF hK2 hF2 hvc;rw [hKK];have HCB:=Ac hCB;clear hCB hKK;have p3:=J12.out.up.at5.2.2.2.1;have e0:=J12.out.jn.z8.cell 0
  have k0:=Ac (show w12.drew.cell? ⟨pb,o+3,none⟩=some (.slice (some ⟨gu,0,none⟩) mu cu)∧w12.drew.cell? ⟨b8,0,none⟩=some (.int .i64 n2) from ⟨(J12.out.below ((Below.refl w12.heap.size w12).drew)).up.at5.2.2.2.1,(J12.out.below ((Below.refl w12.heap.size w12).drew)).jn.z8.cell 0⟩)
  have NPG:Hid (pb≠gu∧b8≠gu):=Ac ⟨fun e=>(J12.out.up.rx gu rfl).2 e.symm,by have h2:=J12.out.zr gu rfl;have h3:=J12.out.jn.d;omega⟩
  go_wp2_with fail
  have wu:IntKind.i64.wrap (u:Int)=(u:Int):=IntWalk.i64_in _ ⟨by omega,by omega⟩
  go_region_held3 (fun w'=>w'.cell? ⟨pb,o+3,none⟩=some (.slice (some ⟨gu,0,none⟩) mu cu)∧w'.cell? ⟨b8,0,none⟩=some (.int .i64 n2)) (first | (with_reducible exact k3.out) | (with_reducible exact k2.out) | (with_reducible exact k1.out) | (with_reducible exact k0.out) | go_keep)
   (first
     | (go_at_call 134;(with_reducible refine (FO.out _).mono ?_);rintro en w13 ⟨rfl,hb13⟩;have J13:=Ac ((J12.out.below ((Below.refl w12.heap.size w12).drew)).below hb13);have k1:=Ac (show w13.cell? ⟨pb,o+3,none⟩=some (.slice (some ⟨gu,0,none⟩) mu cu)∧w13.cell? ⟨b8,0,none⟩=some (.int .i64 n2) from ⟨J13.out.up.at5.2.2.2.1,J13.out.jn.z8.cell 0⟩);clear hb13)
     | (go_at_call 133;(with_reducible refine (CE.out _).mono ?_);rintro en w14 ⟨rfl,hb14⟩;have J14:=Ac (J13.out.below hb14);have k2:=Ac (show w14.cell? ⟨pb,o+3,none⟩=some (.slice (some ⟨gu,0,none⟩) mu cu)∧w14.cell? ⟨b8,0,none⟩=some (.int .i64 n2) from ⟨J14.out.up.at5.2.2.2.1,J14.out.jn.z8.cell 0⟩);obtain ⟨curg,hcg⟩:=VK0 J14.out.up.row;have HCG:=Ac hcg;have rc:=CLU.out _ _ J14.out.up;have rf:=hcg.frozen;have rz:=hcg.lt;have k3:=Ac (show (w14.setCell ⟨gu,u,none⟩ (.string CB)).cell? ⟨pb,o+3,none⟩=some (.slice (some ⟨gu,0,none⟩) mu cu)∧(w14.setCell ⟨gu,u,none⟩ (.string CB)).cell? ⟨b8,0,none⟩=some (.int .i64 n2) from ⟨((J14.out.up.hb.far (p:=⟨gu,u,none⟩) NPG.out.1 (.string CB)).cell _).trans J14.out.up.c3,(J14.out.jn.z8.far (p:=⟨gu,u,none⟩) NPG.out.2 (.string CB)).cell 0⟩);clear hb14 hcg))
  go_wp2_with fail
  have gnx:some gu∉X12:=(J14.out.up.rx gu rfl).1;have pt15:PT (w14.setCell ⟨gu,u,none⟩ (.string CB)) X12 p ((S.set n1 (2,l1,cl)).set n2 (2,lr,cr)) S0 (c+2) (k+3):=J14.out.pt.set gnx u (.string CB);have tu15:=PT0 (pb:=pb) (vA:=.slice (some ⟨gu,0,none⟩) mu cu) J14.out.tu (grownBy_setCell (w:=w14) ⟨gu,u,none⟩ (.string CB))
  have row15:(w14.setCell ⟨gu,u,none⟩ (.string CB)).ownsRow 0 9 1 (.slice (some ⟨gu,0,none⟩) mu cu) mu (strs (cells.set u CB)):=by
   have q:=PF0 J14.out.up.row u (.string CB);rw [HA0] at q;exact q
  have up15:UpM (w14.setCell ⟨gu,u,none⟩ (.string CB)) X12 pb o un ul ui mu cu (some ⟨gu,0,none⟩) cur (cells.set u CB) :=
   ⟨J14.out.up.hb.far (p:=⟨gu,u,none⟩) NPG.out.1 (.string CB),J14.out.up.c0,J14.out.up.c1,J14.out.up.c2,J14.out.up.c3,J14.out.up.c4,J14.out.up.nb,row15,J14.out.up.rx⟩
  have CL:(cells.set u CB).length=mu:=by
   have hl:=up15.row.1;rw [Dt] at hl;omega
  have tu16:Turn (some pb :: (Value.slice (some ⟨gu,0,none⟩) mu cu).ownBlock :: X) (some pb :: (Value.slice (some ⟨gu,0,none⟩) (cells.set u CB).length cu).ownBlock :: X12) w (w14.setCell ⟨gu,u,none⟩ (.string CB)):=by rw [CL];exact tu15
  have up16:UpM (w14.setCell ⟨gu,u,none⟩ (.string CB)) X12 pb o un ul ui (cells.set u CB).length cu (some ⟨gu,0,none⟩) (cur.setIfInBounds (o+3) (.slice (some ⟨gu,0,none⟩) (cells.set u CB).length cu)) (cells.set u CB):=by rw [CL,IK0 J14.out.up.c3];exact up15
  have ws16:∀ g,(Value.slice (some ⟨gu,0,none⟩) (cells.set u CB).length cu).ownBlock=some g→(Value.slice (some ⟨gu,0,none⟩) mu cu).ownBlock=some g∨w.heap.size≤g:=fun g hg=>.inl hg
  have FIN0:Tq w X p pb o un ul ui (.slice (some ⟨gu,0,none⟩) mu cu) cur ((S.set n1 (2,l1,cl)).set n2 (2,lr,cr)) S0 (c+2) (k+3) (cells.set u CB) (.returned (.tuple #[])) (w14.setCell ⟨gu,u,none⟩ (.string CB)):=⟨rfl,X12,some ⟨gu,0,none⟩,cu,pt15,tu16,up16,ws16⟩
  have CE9:cells.set u (Af ⟨key,Ak n2⟩)=cells.set u CB:=by rw [HCB.out]
  rw [← CE9] at FIN0;have FIN:=Ac FIN0;clear FIN0 tu16 up16 ws16 CE9 pt15 tu15 up15 row15 CL gnx
  go_end0
  exact FIN.out
end Go.Proofs.YtjihboddejaelaaGreat
namespace Go.Proofs.YtjihboddejaelaaGreat
open Go.RowKit Go.BigFrame
theorem Dwn.EF1 {G:Nat→Pg} {f root:Nat} {A B:List Nd} {x:Nd} {Ds:List (List Nd)} (h:Dwn G f root (A++x :: B) Ds) (h0:x.n≠f):G x.n=pgN Ds.isEmpty B x:=by
 cases Ds with
 | nil =>
   obtain ⟨_,p2⟩:=Je.1 (Hy.pages h);exact p2.1 h0
 | cons D r=>exact h.1.pages x (by simp) h0
def ZS0 (w:World) (X:List (Option Nat)) (p pb o:Nat) (u:UpR) (ups:List UpR) (ui:Nat) (vA:Value) (cur:Array Value) (S S0:St) (root c k d:Nat) (own:List Nat) (L:List It) (en:Ending) (w':World):Prop :=
 ∃ S' Ds' y',Pnd S'.G root Ds' u.A y' u.B ups∧(Ds'.length=d+1∧S'.q=S.q)∧y'.n=u.y.n∧Dz (y'.its.headD ⟨[],[]⟩).r=Dz (u.y.its.headD ⟨[],[]⟩).r∧Ig (u.A++y' :: u.B) Ds'=L∧Mv S S' own (Eh (u.A++y' :: u.B) Ds' ups) ∧
   Tq w X p pb o u.y.n (Dz (u.y.its.headD ⟨[],[]⟩).r) ui vA cur S' S0 c k ((y'.its.drop 1).map Af) en w'
theorem OV0 {U V:List It} {a b:It}:(((U++a :: b :: V).drop 1).map Af).eraseIdx U.length=((U++[a]++V).drop 1).map Af:=by
 cases U with
 | nil=>rfl
 | cons i U =>
   rw [List.eraseIdx_eq_take_drop_succ];simp only [List.cons_append,List.drop_succ_cons,List.drop_zero,List.length_cons,List.append_assoc,List.map_append,List.map_cons]
   have e1:∀ (l:List ByteArray) (x y:ByteArray) (m:List ByteArray) (n:Nat),n=l.length→(l++x :: y :: m).take (n+1)++(l++x :: y :: m).drop (n+1+1)=l++x :: m:=by
    intro l x y m n hn;subst hn
    have h1:l.length+1-l.length=1:=by omega
    have h2:l.length+1+1-l.length=2:=by omega
    rw [List.take_append,List.drop_append,List.take_of_length_le (by omega),List.drop_of_length_le (by omega),h1,h2]
    simp
   have:=e1 (U.map Af) (Af a) (Af b) (V.map Af) U.length (List.length_map _).symm
   simpa using this
theorem WV0 {U V:List It} {a b:It} (e:It):(((U++a :: b :: V).drop 1).map Af).set U.length (Af e)=((U++[a,e]++V).drop 1).map Af:=by
 cases U with
 | nil=>rfl
 | cons i U =>
   simp only [List.cons_append,List.drop_succ_cons,List.drop_zero,List.length_cons,List.append_assoc,List.map_append,List.map_cons]
   have e1:∀ (l:List ByteArray) (x y z:ByteArray) (m:List ByteArray) (n:Nat),n=l.length→(l++x :: y :: m).set (n+1) z=l++x :: z :: m:=by
    intro l x y z m n hn;subst hn
    rw [List.set_append_right _ _ (by omega)]
    simp
   have h9:=e1 (U.map Af) (Af a) (Af b) (Af e) (V.map Af) U.length (List.length_map _).symm;exact h9
section
variable {w:World} {X:List (Option Nat)} {tb p root c k pb o mu cu ui n0 c0 f:Nat} {pg0:Pg} {Au A0:Option Addr} {cur:Array Value} {S S0:St} {A B:List Nd} {l r:Nd} {Ds:List (List Nd)} {u:UpR} {ups:List UpR}
theorem MM0 (pr:Pair S.G f root Ds A l r B u ups) {D:List Nd} {t:List (List Nd)} (hD:Ds=D :: t) {x:Nd} (hx:x∈[l,r]):∃ i0 cs d,x.its=i0 :: cs∧i0=Dl d∧d∈D∧i0.k=x.lo∧∀ i∈x.its,∃ d∈D,i=Dl d:=by
 subst hD
 have h1:=Jk pr.dn (by simp) x hx
 have h2:∀ i∈x.its,∃ d∈D,i=Dl d:=fun i hi=>by
  have h3:i∈(A++[l,r]++B).flatMap (·.its):=List.mem_flatMap.2 ⟨x,by simp at hx;rcases hx with rfl | rfl <;> simp,hi⟩
  rw [pr.dn.1.its] at h3;obtain ⟨d,hd,e⟩:=List.mem_map.1 h3;exact ⟨d,hd,e.symm⟩
 cases hi:x.its with
 | nil=>rw [hi] at h1;simp at h1
 | cons i0 cs =>
   rw [hi] at h1
   obtain ⟨d,hd,e⟩:=h2 i0 (by rw [hi];exact List.mem_cons_self)
   exact ⟨i0,cs,d,rfl,e,hd,by simpa using h1,by rw [hi] at h2;exact h2⟩
theorem Vk (h:PT w X p S S0 c k) (ht:TM w X tb p root) (hc:c+10≤60000) (hk:k≤800000000) (pr:Pair S.G f root Ds A l r B u ups)
 (own:∀ q∈Eh (A++[l,r]++B) Ds (u :: ups),0<q∧q<S.q∧q∉S.fr) (hle:Ai (body Ds.isEmpty (l.its++r.its))≤1404)
 (hu:UpM w X pb o u.y.n (Dz (u.y.its.headD ⟨[],[]⟩).r) ui mu cu Au cur ((u.y.its.drop 1).map Af)) (ho:o≤1000) (ho2:o+3<cur.size)
 (hs0:SS w A0 pg0.2.2.length pg0.2.2) (hx0:∀ a,A0=some a→some a.block∉X∧a.block<w.heap.size)
 (hside:(ui=u.U.length+1∧n0=r.n∧pg0=pgN Ds.isEmpty B r∧S.G l.n=pgN Ds.isEmpty (r :: B) l)∨(ui=0∧u.U.length=0∧n0=l.n∧pg0=pgN Ds.isEmpty (r :: B) l∧S.G r.n=pgN Ds.isEmpty B r)) (huf:u.y.n≠f) :
 Calls Tryz.prog 145 #[.pointer (some ⟨tb,0,none⟩),.pointer (some ⟨pb,o,none⟩),.agg #[.int .i64 n0,.int .i64 pg0.1,.int .i64 pg0.2.1,.slice A0 pg0.2.2.length c0]] w
  (ZS0 w X p pb o u ups ui (.slice Au mu cu) cur S S0 root (c+3) (k+5) Ds.length (Eh (A++[l,r]++B) Ds (u :: ups)) (Ig (A++[l,r]++B) Ds)):=by
 have hok:=h.ok;have hfew:=hok.few;obtain ⟨n1,n2,n3⟩:=pr.lr
 have memN:∀ x∈[l,r],x.n∈Eh (A++[l,r]++B) Ds (u :: ups):=fun x hx=>List.mem_append_left _ (Bg (by simp at hx;rcases hx with rfl | rfl <;> simp) Ds)
 have ol:=own l.n (memN l (by simp))
 have or_:=own r.n (memN r (by simp))
 have sz:∀ x∈[l,r],∀ i∈x.its,szI i≤244∧i.k.length≤200∧(Ds≠[]→i.r.length=4):=fun x hx i hi=>pr.dn.sz (x:=x) (by simp at hx;rcases hx with rfl | rfl <;> simp) hi
 have szb:∀ i∈l.its++r.its,szI i≤244∧i.k.length≤200∧(Ds≠[]→i.r.length=4):=fun i hi=>(List.mem_append.1 hi).elim (sz l (by simp) i) (sz r (by simp) i)
 have hwb:=IM0 (l:=l.its++r.its) (fun i hi=>⟨(szb i hi).1,(szb i hi).2.1⟩)
 have hits:u.y.its=u.U++Dl l :: Dl r :: u.V:=by rw [pr.up.its];simp
 have hlenY:u.y.its.length≤300:=by
  have h1:=(pr.up.fit u.y (List.mem_append_right _ List.mem_cons_self) huf).le;have h2:=Fz (u.y.its.drop 1);have h3:Ai (u.y.its.drop 1)≤1012:=h1;rw [List.length_drop] at h2;omega
 have hU9:u.U.length≤1000:=by rw [hits,List.length_append] at hlenY;omega
 have hmu:mu≤1000:=by
  have h1:=hu.row.1;rw [Dt,List.length_map,List.length_drop] at h1;omega
 have loY:∀ x∈[l,r],x.lo.length≤200:=fun x hx=>pr.dn.MU0 x (by simp at hx;rcases hx with rfl | rfl <;> simp)
 have hwY:LX0 u.y.its:=fun i hi=>by
  have h1:i∈u.lv.flatMap (·.its):=List.mem_flatMap.2 ⟨u.y,List.mem_append_right _ List.mem_cons_self,hi⟩
  rw [pr.up.inn.its] at h1;obtain ⟨d,hd,e⟩:=List.mem_map.1 h1;rw [← e]
  exact ⟨pr.dn.MU0 d hd,by show (Ak d.n).length≤5000;simp [Ak]⟩
 have b1:=Fz l.its;have b2:=Fz r.its
 have mv2:∀ p1 p2,Mv S ((S.set l.n p1).set r.n p2) (Eh (A++[l,r]++B) Ds (u :: ups)) (Eh (A++[l,r]++B) Ds (u :: ups)):=fun p1 p2=>(Mv.set (memN l (by simp)) p1).trans (Mv.set (memN r (by simp)) p2)
 have h0n:0∉Eh (A++[l,r]++B) Ds (u :: ups):=fun hm=>by have:=(own 0 hm).1;omega
 have hdU:∀ (y':Nd) (T:List It),y'.its=u.U++Dl l :: T→Dz (y'.its.headD ⟨[],[]⟩).r=Dz (u.y.its.headD ⟨[],[]⟩).r:=fun y' T e=>by
  rw [e,hits];cases u.U <;> rfl
 have fin1:∀ (pgm:Pg),Ai (body Ds.isEmpty (l.its++r.its))≤1012→pgm=pgN Ds.isEmpty B ⟨l.n,l.lo,l.its++r.its⟩→∀ en w',Tq w X p pb o u.y.n (Dz (u.y.its.headD ⟨[],[]⟩).r) ui (.slice Au mu cu) cur ((S.set l.n pgm).free r.n) S0 (c+3) (k+5) (((u.y.its.drop 1).map Af).eraseIdx u.U.length) en w' →
  ZS0 w X p pb o u ups ui (.slice Au mu cu) cur S S0 root (c+3) (k+5) Ds.length (Eh (A++[l,r]++B) Ds (u :: ups)) (Ig (A++[l,r]++B) Ds) en w':=fun pgm hle1 epg en w' hp=>by
  obtain ⟨q1,q2⟩:=pr.merge (G':=_) hle1 rfl;have hnd:(Eh (u.A++(⟨u.y.n,u.y.lo,u.U++[⟨l.lo,Ak l.n⟩]++u.V⟩:Nd) :: u.B) ((A++[⟨l.n,l.lo,l.its++r.its⟩]++B) :: Ds) ups++[r.n]).Nodup:=q2.nodup_iff.2 pr.nd
  refine ⟨(S.set l.n pgm).free r.n,_,_,q1.congr fun q hq=>?_,⟨rfl,rfl⟩,rfl,hdU _ u.V (by simp [Dl]), ?_, ?_, ?_⟩
  ·have hq1:q≠r.n:=fun e=>(List.nodup_append.1 hnd).2.2 q hq r.n (by simp) e
   have hq2:q≠0:=fun e=>h0n (by rw [← e];exact q2.mem_iff.1 (List.mem_append_left _ hq))
   show Hm (Hm (Hm S.G l.n pgm) r.n _) 0 _ q=Hm S.G l.n _ q
   rw [Aq hq2,Aq hq1,epg]
  ·show Ig (A++[_]++B) Ds=_
   cases Ds with
   | nil=>simp [Ig]
   | cons D t=>rfl
  ·refine ((Mv.set (memN l (by simp)) pgm).trans ((Mv.free r.n _).perm ?_ (List.Perm.refl _)))
   exact q2.symm.trans List.perm_append_comm
  ·rw [hits] at hp
   rw [OV0] at hp;rw [hits];exact hp
 have fin2:∀ (pl pr':Pg) (X1 Y:List It) (y:It),1012<Ai (body Ds.isEmpty (l.its++r.its))→(l.its++r.its).take (spl Ds.isEmpty (l.its++r.its))=X1→(l.its++r.its).drop (spl Ds.isEmpty (l.its++r.its))=y :: Y→pl=pgN Ds.isEmpty (⟨r.n,y.k,y :: Y⟩ :: B) ⟨l.n,l.lo,X1⟩→pr'=pgN Ds.isEmpty B ⟨r.n,y.k,y :: Y⟩→∀ en w',Tq w X p pb o u.y.n (Dz (u.y.its.headD ⟨[],[]⟩).r) ui (.slice Au mu cu) cur ((S.set l.n pl).set r.n pr') S0 (c+2) (k+3) (((u.y.its.drop 1).map Af).set u.U.length (Af ⟨y.k,Ak r.n⟩)) en w' →
  ZS0 w X p pb o u ups ui (.slice Au mu cu) cur S S0 root (c+3) (k+5) Ds.length (Eh (A++[l,r]++B) Ds (u :: ups)) (Ig (A++[l,r]++B) Ds) en w':=fun pl pr' X1 Y y hgt eX eY e1 e2 en w' hp=>by
  have hb:l.its++r.its=X1++y :: Y:=by rw [← eX,← eY,List.take_append_drop]
  obtain ⟨q1,q2⟩:=pr.share (G':=_) hgt hle eX eY rfl
  refine ⟨(S.set l.n pl).set r.n pr',(A++[⟨l.n,l.lo,X1⟩,⟨r.n,y.k,y :: Y⟩]++B) :: Ds,⟨u.y.n,u.y.lo,u.U++[⟨l.lo,Ak l.n⟩,⟨y.k,Ak r.n⟩]++u.V⟩,by rw [e1,e2];exact q1,⟨rfl,rfl⟩,rfl,hdU _ (⟨y.k,Ak r.n⟩ :: u.V) (by simp [Dl]), ?_,(mv2 pl pr').perm (List.Perm.refl _) q2, ?_⟩
  ·show Ig (A++[_,_]++B) Ds=_
   cases Ds with
   | nil =>
     have e:([⟨l.n,l.lo,X1⟩,⟨r.n,y.k,y :: Y⟩]:List Nd).flatMap (·.its)=[l,r].flatMap (·.its):=by
      simp only [List.flatMap_cons,List.flatMap_nil,List.append_nil];exact hb.symm
     show (A++[(⟨l.n,l.lo,X1⟩:Nd),⟨r.n,y.k,y :: Y⟩]++B).flatMap (fun x:Nd=>x.its)=(A++[l,r]++B).flatMap (fun x:Nd=>x.its)
     rw [List.flatMap_append,List.flatMap_append,e,List.flatMap_append,List.flatMap_append]
   | cons D t=>rfl
  ·rw [hits] at hp
   rw [WV0] at hp;rw [hits];obtain ⟨he,X',Au',cu',hp1,r1,r2,r3⟩:=hp
   exact ⟨he,X',Au',cu',hp1.more (by omega) (by omega),r1,r2,r3⟩
 cases Ds with
 | nil =>
   have epl:pgN ([]:List (List Nd)).isEmpty (r :: B) l=(1,r.n,l.its.map Af):=rfl;have epr:pgN ([]:List (List Nd)).isEmpty B r=(1,hdN B 0,r.its.map Af):=rfl
   have hL2:hdN B 0≤2147483647:=by
    cases hB:B with
    | nil=>exact Nat.zero_le _
    | cons b B' =>
      have:=(own b.n (List.mem_append_left _ (Bg (by rw [hB];simp) []))).2.1
      show b.n≤_;omega
   have hbb:body ([]:List (List Nd)).isEmpty (l.its++r.its)=l.its++r.its:=rfl;rw [hbb] at hle;have hbz:=Fz (l.its++r.its);rw [List.length_append] at hbz
   have hs:(ui=u.U.length+1∧r.n=n0∧hdN B 0=pg0.2.1∧r.its.map Af=pg0.2.2∧pg0.1=1∧S.G l.n=(1,r.n,l.its.map Af))∨(ui=0∧u.U.length=0∧l.n=n0∧r.n=pg0.2.1∧l.its.map Af=pg0.2.2∧pg0.1=1∧S.G r.n=(1,hdN B 0,r.its.map Af)):=by
    rcases hside with ⟨a,b,c,d⟩ | ⟨a,b,c,d,e⟩
    ·rw [epr] at c;subst c;exact .inl ⟨a,b.symm,rfl,rfl,rfl,by rw [d,epl]⟩
    ·rw [epl] at d;subst d;exact .inr ⟨a,b,c.symm,rfl,rfl,rfl,by rw [e,epr]⟩
   have hk1:pg0.1=1:=by rcases hs with h1 | h1 <;> simp [h1]
   rw [hk1]
   have hs2:(ui=u.U.length+1∧r.n=n0∧hdN B 0=pg0.2.1∧r.its.map Af=pg0.2.2∧S.G l.n=(1,r.n,l.its.map Af))∨(ui=0∧u.U.length=0∧l.n=n0∧r.n=pg0.2.1∧l.its.map Af=pg0.2.2∧S.G r.n=(1,hdN B 0,r.its.map Af)):=by
    rcases hs with ⟨a,b,c,d,_,e⟩ | ⟨a,b,c,d,e,_,g⟩
    ·exact .inl ⟨a,b,c,d,e⟩
    ·exact .inr ⟨a,b,c,d,e,g⟩
   have hbm:l.its.map Af++r.its.map Af=(l.its++r.its).map Af:=List.map_append.symm
   by_cases hu1:Ai (l.its++r.its)≤1012
   ·refine (LA0 (bs:=(l.its++r.its).map Af) h ht hc hk hu hits rfl hU9 hwY rfl rfl hmu ho ho2 hs0 hx0 hs2 (by rw [List.length_map];omega) (by rw [List.length_map];omega) ol or_ n1 (by omega) hL2 hbm (by rw [Eg];exact hu1)).mono ?_
    exact fin1 _ hu1 rfl
   ·obtain ⟨X1,y,Y,eX,eY,hh,h0⟩:=FD0 (b:=true) (l:=l.its++r.its) (by show 1012<Ai (l.its++r.its);omega) hle (fun i hi=>(szb i hi).1)
    have hb:l.its++r.its=X1++y :: Y:=by rw [← eX,← eY,List.take_append_drop]
    refine (LW0 (bs:=(l.its++r.its).map Af) (cl:=X1.map Af) (cr:=(y :: Y).map Af) (key:=y.k) (lr:=0) h ht hc hk hu hits rfl hU9 hwY rfl rfl hmu ho ho2 hs0 hx0 hs2 (by rw [List.length_map];omega) (by rw [List.length_map];omega) ol or_ n1 (by omega) hL2 hbm (by rw [Eg];omega) (szb y (by rw [hb];simp)).2.1 (by rw [Eg];exact hh.l2) (by rw [Eg];exact hh.r2) (by omega)
     (fun W A c hs hc1 hc2=>by
       rw [List.length_map] at hc1 hs ⊢
       exact Px _ hs hwb (by omega) hle (fun i hi=>(szb i hi).1) hc1 hc2 eX eY)).mono ?_
    exact fin2 _ _ X1 Y y (by show 1012<Ai (l.its++r.its);omega) eX eY rfl rfl
 | cons D t =>
   obtain ⟨il,cl,dl,el1,el2,el3,el4,el5⟩:=MM0 pr rfl (x:=l) (by simp)
   obtain ⟨ir,cr,dr,er1,er2,er3,er4,er5⟩:=MM0 pr rfl (x:=r) (by simp)
   have memD:∀ d∈D,d.n<S.q:=fun d hd=>(own d.n (List.mem_append_left _ (List.mem_append_right _ (Bg hd t)))).2.1
   have nl:Dz (l.its.headD ⟨[],[]⟩).r=dl.n:=by rw [el1,el2];have:=memD dl el3;exact Du (by omega)
   have nr:Dz (r.its.headD ⟨[],[]⟩).r=dr.n:=by rw [er1,er2];have:=memD dr er3;exact Du (by omega)
   have epl:pgN (D :: t).isEmpty (r :: B) l=(2,dl.n,(l.its.drop 1).map Af):=by rw [← nl];rfl
   have epr:pgN (D :: t).isEmpty B r=(2,dr.n,(r.its.drop 1).map Af):=by rw [← nr];rfl
   have hbb:body (D :: t).isEmpty (l.its++r.its)=l.its.drop 1++r.its:=by rw [el1];rfl
   have hb0:(l.its++r.its).drop 1=l.its.drop 1++r.its:=by rw [el1];rfl
   rw [hbb] at hle;have hbz:=Fz (l.its.drop 1++r.its);rw [List.length_append] at hbz
   have hir:ir=⟨r.lo,Ak dr.n⟩:=by rw [er2] at er4 ⊢;unfold Dl at er4 ⊢;simp only at er4;rw [er4]
   have hbm:(l.its.drop 1).map Af++Af ⟨(Dl r).k,Ak dr.n⟩ :: (r.its.drop 1).map Af=(l.its.drop 1++r.its).map Af:=by
    have e1:(⟨(Dl r).k,Ak dr.n⟩:It)=ir:=by rw [hir];rfl
    rw [e1,List.map_append,er1];rfl
   have hs:pg0.1=2∧((ui=u.U.length+1∧r.n=n0∧dr.n=pg0.2.1∧(r.its.drop 1).map Af=pg0.2.2∧S.G l.n=(2,dl.n,(l.its.drop 1).map Af))∨(ui=0∧u.U.length=0∧l.n=n0∧dl.n=pg0.2.1∧(l.its.drop 1).map Af=pg0.2.2∧S.G r.n=(2,dr.n,(r.its.drop 1).map Af))):=by
    rcases hside with ⟨a,b,c,d⟩ | ⟨a,b,c,d,e⟩
    ·rw [epr] at c;subst c;exact ⟨rfl,.inl ⟨a,b.symm,rfl,rfl,by rw [d,epl]⟩⟩
    ·rw [epl] at d;subst d;exact ⟨rfl,.inr ⟨a,b,c.symm,rfl,rfl,by rw [e,epr]⟩⟩
   rw [hs.1];have ql:=memD dl el3;have qr:=memD dr er3
   have lenl:((l.its.drop 1).map Af).length≤1000:=by rw [List.length_map];omega
   have lenr:((r.its.drop 1).map Af).length≤1000:=by rw [List.length_map,List.length_drop];omega
   by_cases hu1:Ai (l.its.drop 1++r.its)≤1012
   ·refine (KP0 (bs:=(l.its.drop 1++r.its).map Af) h ht hc hk hu hits rfl hU9 hwY rfl rfl hmu ho ho2 hs0 hx0 hs.2 lenl lenr ol or_ n1 (by omega) (by omega) hbm (by rw [Eg];exact hu1)).mono ?_
    refine fin1 _ (by rw [hbb];exact hu1) ?_
    show (2,dl.n,(l.its.drop 1++r.its).map Af)=Yr ⟨l.n,l.lo,l.its++r.its⟩
    unfold Yr
    show _=(2,Dz ((l.its++r.its).headD ⟨[],[]⟩).r,((l.its++r.its).drop 1).map Af)
    rw [hb0,← nl,el1];rfl
   ·obtain ⟨X1,y,Y,eX,eY,hh,h0⟩:=FD0 (b:=false) (l:=l.its++r.its) (by show 1012<Ai ((l.its++r.its).drop 1);rw [hb0];omega) (by show Ai ((l.its++r.its).drop 1)≤1404;rw [hb0];exact hle) (fun i hi=>(szb i (List.mem_of_mem_drop hi)).1)
    have hb:l.its++r.its=X1++y :: Y:=by rw [← eX,← eY,List.take_append_drop]
    have hyD:∃ d∈D,y=Dl d:=by
     have hy:y∈l.its++r.its:=by rw [hb];simp
     exact (List.mem_append.1 hy).elim (el5 y) (er5 y)
    obtain ⟨dy,hdy,ey⟩:=hyD
    have ny:Dz y.r=dy.n:=by rw [ey];have:=memD dy hdy;exact Du (by omega)
    have qy:=memD dy hdy
    refine (MH0 (bs:=(l.its.drop 1++r.its).map Af) (cl:=(X1.drop 1).map Af) (cr:=Y.map Af) (key:=y.k) (lr:=Dz y.r) h ht hc hk hu hits rfl hU9 hwY rfl rfl hmu ho ho2 hs0 hx0 hs.2 lenl lenr ol or_ n1 (by omega) (by omega) hbm (by rw [Eg];omega) (szb y (by rw [hb];simp)).2.1 (by rw [Eg];exact hh.l2) (by rw [Eg];exact hh.r2) (by omega)
     (fun W A c hs hc1 hc2=>by
       rw [List.length_map] at hc1 hs ⊢;rw [← hb0] at hs hc1 ⊢
       exact Oa _ hs hwb (by rw [hb0];omega) (by rw [hb0];exact hle) (fun i hi=>(szb i (List.mem_of_mem_drop hi)).1) hc1 hc2 (fun i hi=>(szb i hi).2.2 (by simp)) eX eY)).mono ?_
    refine fin2 _ _ X1 Y y (by rw [hbb];omega) eX eY ?_ rfl
    show (2,dl.n,(X1.drop 1).map Af)=Yr ⟨l.n,l.lo,X1⟩
    unfold Yr
    have hX1:X1.headD ⟨[],[]⟩=l.its.headD ⟨[],[]⟩:=by
     cases X1 with
     | nil=>exact absurd rfl hh.ne.1
     | cons a X1=>rw [el1] at hb ⊢;injection hb with h1 _;exact h1.symm
    show _=(2,Dz (X1.headD ⟨[],[]⟩).r,(X1.drop 1).map Af)
    rw [hX1,nl]
end
end Go.Proofs.YtjihboddejaelaaGreat
