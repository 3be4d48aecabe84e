/-
  Package tree: join: what holds behind the loading of the neighbour.
-/
import Derived.Test.YtjihboddejaelaaGreatTs1
import Derived.Test.YtjihboddejaelaaGreatTs15
import Derived.Deep.RegionHeld3
import Derived.Deep.AppendLies
import Derived.Test.YtjihboddejaelaaGreatTs4
set_option linter.unusedVariables false
set_option linter.unusedSimpArgs false
set_option maxRecDepth 100000
set_option maxHeartbeats 100000000
namespace Go.Proofs.YtjihboddejaelaaGreat
open Go.RowKit Go.BigFrame
attribute [local go_sem] Fv Cj Bq Act.put
def FD1 (w:World) (X:List (Option Nat)) (tb p root c k pb o un ul ui mu cu u n1 n2 kd l1 l2:Nat) (Au:Option Addr) (cur:Array Value) (cells s1 s2:List ByteArray) (S S0:St) (v6 v7 v8:Value) (wx:World):Prop :=
 v6 = .int .i64 ((u:Int)+1)∧∃ b7 b8 X' A1 A2 c1 c2 z,v7 = .pointer (some ⟨b7,0,none⟩)∧v8 = .pointer (some ⟨b8,0,none⟩)∧z=wx.heap.size∧Jx w wx X X' z p tb root c k pb o un ul ui mu cu b7 b8 n1 n2 kd l1 l2 s1.length s2.length c1 c2 Au A1 A2 cur cells s1 s2 S S0
def EV1 (z pb o gu u mu cu b8 l2 n c:Nat) (A:Option Addr) (vc KR F CB:ByteArray):Nat→Value→World→Prop
 | 0,v,_=>v = .pointer (some ⟨z,1,none⟩)
 | 1,v,_=>v = .pointer (some ⟨z,3,none⟩)
 | 2,v,_=>v = .slice A n c
 | 3,v,_=>v = .pointer (some ⟨pb,o,none⟩)
 | 4,v,_=>v = .pointer (some ⟨pb,o,none⟩)
 | 5,v,_=>v = .pointer (some ⟨pb,o,none⟩)
 | 6,v,_=>v = .pointer (some ⟨pb,o+1,none⟩)
 | 7,v,_=>v = .pointer (some ⟨pb,o+3,none⟩)
 | 8,v,_=>v = .slice (some ⟨gu,0,none⟩) mu cu
 | 9,v,_=>v = .int .i64 ((u:Int)+1)
 | 10,v,_=>v = .int .i64 u
 | 11,v,_=>v = .pointer (some ⟨gu,u,none⟩)
 | 12,v,_=>v = .string vc
 | 13,v,_=>v = .string KR
 | 14,v,_=>v = .pointer (some ⟨b8,1,none⟩)
 | 15,v,_=>v = .pointer (some ⟨b8,2,none⟩)
 | 16,v,_=>v = .int .i64 l2
 | 17,v,_=>v = .string F
 | 18,v,_=>v = .string CB
 | 19,v,w=>∃ g,v = .slice (some ⟨g,0,none⟩) 1 1∧Has w g 9 #[.string CB]
 | _,_,_=>True
theorem DA0 (z pb o gu u mu cu b8 l2 n c:Nat) (A:Option Addr) (vc KR F CB:ByteArray):∀ j v (w w':World),Below w.heap.size w w'→EV1 z pb o gu u mu cu b8 l2 n c A vc KR F CB j v w→EV1 z pb o gu u mu cu b8 l2 n c A vc KR F CB j v w'
 | 0,_,_,_,_,h=>h
 | 1,_,_,_,_,h=>h
 | 2,_,_,_,_,h=>h
 | 3,_,_,_,_,h=>h
 | 4,_,_,_,_,h=>h
 | 5,_,_,_,_,h=>h
 | 6,_,_,_,_,h=>h
 | 7,_,_,_,_,h=>h
 | 8,_,_,_,_,h=>h
 | 9,_,_,_,_,h=>h
 | 10,_,_,_,_,h=>h
 | 11,_,_,_,_,h=>h
 | 12,_,_,_,_,h=>h
 | 13,_,_,_,_,h=>h
 | 14,_,_,_,_,h=>h
 | 15,_,_,_,_,h=>h
 | 16,_,_,_,_,h=>h
 | 17,_,_,_,_,h=>h
 | 18,_,_,_,_,h=>h
 | 19,_,_,_,hb,⟨g,e,h⟩=>⟨g,e,h.Aj hb⟩
 | _+20,_,_,_,_,_=>trivial
theorem at8 {W:World} {X:List (Option Nat)} {g pb o un ul ui mu cu:Nat} {Au:Option Addr} {cur:Array Value} {cells:List ByteArray} {t:TypeId} {a0 a1 a2 a3:Value} (H:Has W g t #[a0,a1,a2,a3]) (Q:UpM W X pb o un ul ui mu cu Au cur cells) :
 W.cell? ⟨g,0,none⟩=some a0∧W.cell? ⟨g,1,none⟩=some a1∧W.cell? ⟨g,2,none⟩=some a2∧W.cell? ⟨g,3,none⟩=some a3∧W.cell? ⟨pb,o,none⟩=some (.int .i64 un)∧W.cell? ⟨pb,o+1,none⟩=some (.int .i64 2)∧W.cell? ⟨pb,o+2,none⟩=some (.int .i64 ul)∧W.cell? ⟨pb,o+3,none⟩=some (.slice Au mu cu) :=
 ⟨H.cell 0,H.cell 1,H.cell 2,H.cell 3,Q.at5.1,Q.at5.2.1,Q.at5.2.2.1,Q.at5.2.2.2.1⟩
theorem LA0 {w:World} {X:List (Option Nat)} {tb p root c k pb o un u ui mu cu n0 l0 c0 n1 l1 n2 l2:Nat} {Au A0:Option Addr} {cur:Array Value} {S S0:St} {its U V:List It} {itL itR:It} {s0 s1 s2 bs:List ByteArray}
 (h:PT w X p S S0 c k) (ht:TM w X tb p root) (hc:c+10≤60000) (hk:k≤800000000)
 (hu:UpM w X pb o un (Dz (its.headD ⟨[],[]⟩).r) ui mu cu Au cur ((its.drop 1).map Af)) (hits:its=U++itL :: itR :: V) (hU:U.length=u) (hu9:u≤1000) (hw:LX0 its) (hl4:itL.r=Ak n1) (hr4:itR.r=Ak n2) (hm:mu≤1000) (ho:o≤1000) (ho2:o+3<cur.size)
 (hs0:SS w A0 s0.length s0) (hx0:∀ a,A0=some a→some a.block∉X∧a.block<w.heap.size)
 (hside:(ui=u+1∧n2=n0∧l2=l0∧s2=s0∧S.G n1=(1,l1,s1))∨(ui=0∧u=0∧n1=n0∧l1=l0∧s1=s0∧S.G n2=(1,l2,s2)))
 (h1:s1.length≤1000) (h2:s2.length≤1000) (hn1:0<n1∧n1<S.q∧n1∉S.fr) (hn2:0<n2∧n2<S.q∧n2∉S.fr) (h12:n1≠n2) (hl1:l1≤2147483647) (hl2:l2≤2147483647) (hbs:s1++s2=bs) (hfit:Be bs≤1012) :
 Calls Tryz.prog 145 #[.pointer (some ⟨tb,0,none⟩),.pointer (some ⟨pb,o,none⟩),.agg #[.int .i64 n0,.int .i64 1,.int .i64 l0,.slice A0 s0.length c0]] w
  (Tq w X p pb o un (Dz (its.headD ⟨[],[]⟩).r) ui (.slice Au mu cu) cur ((S.set n1 (1,l2,bs)).free n2) S0 (c+3) (k+5) (((its.drop 1).map Af).eraseIdx u)):=by
 have hok:=h.ok;have HP:=Ac h;have HT:=Ac ht;have HCK:=Ac (And.intro hc hk);have HU:=Ac hu;have HSD:=Ac hside;have HN:=Ac (And.intro hn1 (And.intro hn2 h12));have HL:=Ac (And.intro h1 (And.intro h2 (And.intro hl1 hl2)));have HFIT:=Ac hfit;have HBS:=Ac hbs;have HUO:=Ac (And.intro hm (And.intro ho (And.intro ho2 hu9)));have HOK:=Ac hok;have HIT:=Ac (And.intro hits (And.intro hU (And.intro hw (And.intro hl4 hr4))))
 obtain ⟨ul,hul⟩:∃ x,Dz (its.headD ⟨[],[]⟩).r=x:=⟨_,rfl⟩;have HUL:=Ac hul;rw [hul] at HU hu ⊢;obtain ⟨cells,hce⟩:∃ x,(its.drop 1).map Af=x:=⟨_,rfl⟩;have HCE:=Ac hce;rw [hce] at HU hu ⊢;obtain ⟨g0,g1,g2,g3,g4⟩:=hu.at5;obtain ⟨iv,hiv⟩:∃ iv:Int,iv=(ui:Int):=⟨_,rfl⟩;rw [← hiv] at g4;have HIV:=Ac hiv;have gf:=hu.hb.frozen;have gz:=hu.hb.lt;have ltx:=Ac h.lt;have HS0:=Ac (And.intro hs0 hx0);clear h ht hc hk hok hu hul hce hs0 hx0 hits hU hw hl4 hr4 hside hn1 hn2 h12 h1 h2 hl1 hl2 hfit hm ho ho2 hu9 hiv hbs
 go_enter Tryz.func145,Tryz.ntmps145
 go_upto_if 18 with fail
 have BX0:=(Has.new w 116 #[.int .i64 n0,.int .i64 1,.int .i64 l0,.slice A0 s0.length c0]);have BX7:=(Has.new (w.alloc (.cells #[.int .i64 n0,.int .i64 1,.int .i64 l0,.slice A0 s0.length c0] 116)) 116 #[.int .i64 0,.int .i64 0,.int .i64 0,.slice none 0 0]);have BX8:=(Has.new ((w.alloc (.cells #[.int .i64 n0,.int .i64 1,.int .i64 l0,.slice A0 s0.length c0] 116)).alloc (.cells #[.int .i64 0,.int .i64 0,.int .i64 0,.slice none 0 0] 116)) 116 #[.int .i64 0,.int .i64 0,.int .i64 0,.slice none 0 0])
 simp only [World.size_alloc] at BX7 BX8
 have B3:=(((Below.refl w.heap.size w).alloc (Nat.le_refl _) (.cells #[.int .i64 n0,.int .i64 1,.int .i64 l0,.slice A0 s0.length c0] 116)).alloc (by simp) (.cells #[.int .i64 0,.int .i64 0,.int .i64 0,.slice none 0 0] 116)).alloc (by simp;omega) (.cells #[.int .i64 0,.int .i64 0,.int .i64 0,.slice none 0 0] 116)
 have R0:=Ac ((BX0.alloc (.cells #[.int .i64 0,.int .i64 0,.int .i64 0,.slice none 0 0] 116)).alloc (.cells #[.int .i64 0,.int .i64 0,.int .i64 0,.slice none 0 0] 116));have R7:=Ac (BX7.alloc (.cells #[.int .i64 0,.int .i64 0,.int .i64 0,.slice none 0 0] 116));have R8:=Ac BX8;have HB3:=Ac B3;clear BX0 BX7 BX8 B3
 generalize (((w.alloc (.cells #[.int .i64 n0,.int .i64 1,.int .i64 l0,.slice A0 s0.length c0] 116)).alloc (.cells #[.int .i64 0,.int .i64 0,.int .i64 0,.slice none 0 0] 116)).alloc (.cells #[.int .i64 0,.int .i64 0,.int .i64 0,.slice none 0 0] 116))=W3 at *
 have P3:=Ac (HP.out.below HB3.out);have M3:=Ac (HT.out.below HB3.out);have Q3:=Ac (HU.out.below HB3.out);have U3:=Ac (Turn.below X HB3.out)
 have NX:Hid (∀ i,w.heap.size≤i→some i∉X):=Ac (fun i hi hm=>by have:=ltx.out _ hm;omega)
 clear g0 g1 g2 g3 g4 gf
 go_cut [6,7,8] (fun v6 v7 v8 wx=>FD1 w X tb p root c (k+1) pb o un ul ui mu cu u n1 n2 1 l1 l2 Au cur cells s1 s2 S S0 v6 v7 v8 wx)
 case first =>
  obtain hsd:=HSD.out
  rcases hsd with ⟨hui,rfl,rfl,rfl,hG⟩ | ⟨hui,rfl,rfl,rfl,rfl,hG⟩
  ·have LD:=Ac (fun W (h:PT W X p S S0 c k) (ht:TM W X tb p root)=>Gg (n:=n1) h ht (by have:=HCK.out;omega) (by have:=HCK.out;omega) (by have:=HN.out;omega) (HOK.out.pg _ (by have:=HN.out;omega)) (by rw [hG];simp))
   rw [hG] at LD
   have KD0:=(fun W (h:SS W Au mu ((its.drop 1).map Af))=>Ie un mu cu Au its W HIT.out.1 h HIT.out.2.2.1 (by rw [HIT.out.2.2.2.1];rfl) (by have:=HUO.out;omega))
   rw [HIT.out.2.2.2.1,Du (by have:=HOK.out.few;have:=HN.out;omega),HIT.out.2.1,HUL.out,HCE.out] at KD0
   have i0:(0:Int)<(u:Int)+1:=by omega
   have wu:IntKind.i64.wrap (u:Int)=(u:Int):=IntWalk.i64_in _ ⟨by omega,by have:=HIT.out.2.1;have:=HUO.out;omega⟩
   have KD1:=Ac KD0
   obtain rfl:iv=(u:Int)+1:=by have:=HIV.out;omega
   clear KD0 hG hui;obtain ⟨g0,g1,g2,g3,g4⟩:=Q3.out.at5;have gf:=Q3.out.hb.frozen;have gz3:=Q3.out.hb.lt;obtain ⟨r0,r1,r2,r3⟩:=R0.out.cells4;have rz:=R0.out.lt
   go_upto_region 4 with fail
   have k3:=Ac (at8 (R0.out.drew) (Q3.out.below ((Below.refl W3.heap.size W3).drew)))
   have NA:Hid (∀ g,w.heap.size≤g→∀ k,(Value.slice Au mu cu).ownBlock=some k→k≠g):=Ac (fun g hg k hk e=>by have:=(HU.out.row.lt k hk).2;omega)
   have N07:Hid (w.heap.size≠w.heap.size+1):=Ac (by omega)
   have N08:Hid (w.heap.size≠w.heap.size+1+1):=Ac (by omega)
   have N7:Hid (pb≠w.heap.size+1):=Ac (by omega)
   have N8:Hid (pb≠w.heap.size+1+1):=Ac (by omega)
   have NA7:=Ac (NA.out (w.heap.size+1) (Nat.le_succ _))
   have NA8:=Ac (NA.out (w.heap.size+1+1) (by omega))
   have KD4:=Ac (fun W (h:Below W3.heap.size W3 W) (y:Int) (hy:y=u)=>by have q:=KD1.out W (Q3.out.below h).ss;rw [← hy] at q;exact q)
   go_region_held3 (fun w'=>w'.cell? ⟨w.heap.size,0,none⟩=some (.int .i64 n2)∧w'.cell? ⟨w.heap.size,1,none⟩=some (.int .i64 1)∧w'.cell? ⟨w.heap.size,2,none⟩=some (.int .i64 l2)∧w'.cell? ⟨w.heap.size,3,none⟩=some (.slice A0 s2.length c0)∧w'.cell? ⟨pb,o,none⟩=some (.int .i64 un)∧w'.cell? ⟨pb,o+1,none⟩=some (.int .i64 2)∧w'.cell? ⟨pb,o+2,none⟩=some (.int .i64 ul)∧w'.cell? ⟨pb,o+3,none⟩=some (.slice Au mu cu)) (first | (with_reducible exact k7.out) | (with_reducible exact k6.out) | (with_reducible exact k5.out) | (with_reducible exact k4.out) | (with_reducible exact k3.out) | go_keep)
    (first
      | (go_at_call 132;(with_reducible refine (KD4.out _ ((Below.refl _ _).drew) _ (by first | exact wu | (rw [wu]) | omega)).mono ?_);rintro en w4 ⟨rfl,hb4⟩;have B4:=Ac (show Below W3.heap.size W3 w4 from ((Below.refl W3.heap.size W3).drew).trans (show Below W3.heap.size W3.drew w4 from hb4));have H4:=Ac (R0.out.Aj (((Below.refl W3.heap.size W3).drew).trans hb4));have Q4:=Ac (Q3.out.below (((Below.refl W3.heap.size W3).drew).trans hb4));have k4:=Ac (at8 H4.out Q4.out);clear hb4)
      | (go_at_call 62;(with_reducible refine (LD.out _ (P3.out.below B4.out) (M3.out.below B4.out)).mono ?_);rintro en w5 ⟨A1,c1,X5,rfl,hp5,ht5,ho5,hq5⟩;have P5:=Ac hp5;have T5:=Ac (((Turn.below X B4.out).trans ht5));have O5:=Ac ho5;have Z5:=Ac hq5;have G0:=Ac (T5.out.has R0.out (NX.out _ (Nat.le_refl _)));have Q5:=Ac (Q3.out.turn T5.out);have k5:=Ac (at8 G0.out Q5.out);have H6:=Ac (Bl G0.out N07.out (.int .i64 n1) (.int .i64 1) (.int .i64 l1) (.slice A1 s1.length c1));have Q6:=Ac (UpM.Ij Q5.out N7.out NA7.out (.int .i64 n1) (.int .i64 1) (.int .i64 l1) (.slice A1 s1.length c1));have k6:=Ac (at8 H6.out Q6.out);have H7:=Ac (Bl H6.out N08.out (.int .i64 n2) (.int .i64 1) (.int .i64 l2) (.slice A0 s2.length c0));have Q7:=Ac (UpM.Ij Q6.out N8.out NA8.out (.int .i64 n2) (.int .i64 1) (.int .i64 l2) (.slice A0 s2.length c0));have k7:=Ac (at8 H7.out Q7.out);have y7:=(T5.out.has R7.out (NX.out _ (Nat.le_succ _))).lt;have f7:=(T5.out.has R7.out (NX.out _ (Nat.le_succ _))).frozen;have y8:=(T5.out.has R8.out (NX.out _ (by omega))).lt;have f8:=(T5.out.has R8.out (NX.out _ (by omega))).frozen;obtain ⟨a0,a1,a2,a3⟩:=(T5.out.has R7.out (NX.out _ (Nat.le_succ _))).cells4;obtain ⟨d0,d1,d2,d3⟩:=(T5.out.has R8.out (NX.out _ (by omega))).cells4;clear hp5 ht5 ho5 hq5))
   go_wp2_with fail
   go_meet
   have o7:some (w.heap.size+1)∉X5:=T5.out.out (NX.out _ (Nat.le_succ _)) R7.out.lt
   have o8:some (w.heap.size+1+1)∉X5:=T5.out.out (NX.out _ (by omega)) R8.out.lt
   have tb7:tb≠w.heap.size+1:=by have:=HT.out.has.lt;omega
   have tb8:tb≠w.heap.size+1+1:=by have:=HT.out.has.lt;omega
   have ge7:w.heap.size≤w.heap.size+1:=Nat.le_succ _
   have ge8:w.heap.size≤w.heap.size+1+1:=by omega
   have h7:=T5.out.has R7.out (NX.out _ (Nat.le_succ _))
   have h8:=T5.out.has R8.out (NX.out _ (by omega))
   have d78:w.heap.size+1≠w.heap.size+1+1:=by omega
   have ssl:=SS.Dv O5.out
   have ssa:=(HS0.out.1.keep HB3.out).stay T5.out.size fun a e=>T5.out.block _ (Nat.lt_of_lt_of_le (HS0.out.2 a e).2 HB3.out.size) (HS0.out.2 a e).1
   have bs:=B4.out.size;have rz8:=R8.out.lt;have s3:=HB3.out.size;have s5:=T5.out.size
   have xl:∀ a,A1=some a→some a.block∉X5∧a.block<w5.heap.size∧a.block≠w.heap.size+1∧a.block≠w.heap.size+1+1:=fun a e=>by
    subst e;have q:=O5.out.lt a.block rfl
    exact ⟨Z5.out a.block rfl,q.2,by omega,by omega⟩
   have xa:∀ a,A0=some a→some a.block∉X5∧a.block<w5.heap.size∧a.block≠w.heap.size+1∧a.block≠w.heap.size+1+1:=fun a e=>by
    have q:=HS0.out.2 a e
    exact ⟨T5.out.out q.1 (by omega),by omega,by omega,by omega⟩
   have hz7:((((((((w5.setCell ⟨w.heap.size+1,0,none⟩ (.int .i64 n1)).setCell ⟨w.heap.size+1,1,none⟩ (.int .i64 1)).setCell ⟨w.heap.size+1,2,none⟩ (.int .i64 l1)).setCell ⟨w.heap.size+1,3,none⟩ (.slice A1 s1.length c1)).setCell ⟨w.heap.size+1+1,0,none⟩ (.int .i64 n2)).setCell ⟨w.heap.size+1+1,1,none⟩ (.int .i64 1)).setCell ⟨w.heap.size+1+1,2,none⟩ (.int .i64 l2)).setCell ⟨w.heap.size+1+1,3,none⟩ (.slice A0 s2.length c0)).heap.size=w5.heap.size:=by simp
   have tbl:=HT.out.has.lt;have pbl:=HU.out.hb.lt
   refine ⟨rfl,_,_,X5,A1,A0,c1,c0,_,rfl,rfl,rfl,⟨((P5.out.Me o7).Me o8),(((M3.out.turn T5.out).Me tb7).Me tb8),Q7.out,(((U3.out.trans T5.out).Ho ge7).Ho ge8),⟨Bl (Fq h7 _ _ _ _) d78 _ _ _ _,Fq (Bl h8 d78.symm _ _ _ _) _ _ _ _,o7,o8,Nat.lt_succ_self _,(ssl.Ij (fun a e=>(xl a e).2.2.1) _ _ _ _).Ij (fun a e=>(xl a e).2.2.2) _ _ _ _,(ssa.Ij (fun a e=>(xa a e).2.2.1) _ _ _ _).Ij (fun a e=>(xa a e).2.2.2) _ _ _ _,fun a e=>⟨(xl a e).1,by rw [hz7];exact (xl a e).2.1,(xl a e).2.2⟩,fun a e=>⟨(xa a e).1,by rw [hz7];exact (xa a e).2.1,(xa a e).2.2⟩⟩,by rw [hz7];omega,by rw [hz7];omega,by rw [hz7];omega,fun g hg=>by rw [hz7];exact (Q5.out.row.lt g hg).2,fun g hg=>by have:=(HU.out.row.lt g hg).2;omega,fun a e=>by rw [hz7];exact (xl a e).2.1,fun a e=>by rw [hz7];exact (xa a e).2.1,by rw [hz7];omega,Nat.le_refl _⟩⟩
  ·have LD:=Ac (fun W (h:PT W X p S S0 c k) (ht:TM W X tb p root)=>Gg (n:=n2) h ht (by have:=HCK.out;omega) (by have:=HCK.out;omega) (by have:=HN.out;omega) (HOK.out.pg _ (by have:=HN.out;omega)) (by rw [hG];simp))
   rw [hG] at LD
   have KD0:=(fun W (h:SS W Au mu ((its.drop 1).map Af))=>Ie un mu cu Au its W (U:=U++[itL]) (it:=itR) (V:=V) (by rw [HIT.out.1];simp) h HIT.out.2.2.1 (by rw [HIT.out.2.2.2.2];rfl) (by have:=HUO.out;omega))
   have hU1:(U++[itL]).length=1:=by rw [List.length_append,HIT.out.2.1];rfl
   rw [HIT.out.2.2.2.2,Du (by have:=HOK.out.few;have:=HN.out;omega),hU1,HUL.out,HCE.out] at KD0
   have KD1:=Ac KD0
   obtain rfl:iv=0:=by have:=HIV.out;omega
   clear KD0 hG hui;obtain ⟨g0,g1,g2,g3,g4⟩:=Q3.out.at5;have gf:=Q3.out.hb.frozen;have gz3:=Q3.out.hb.lt;obtain ⟨r0,r1,r2,r3⟩:=R0.out.cells4;have rz:=R0.out.lt
   go_upto_region 6 with fail
   have k3:=Ac (at8 (R0.out.drew) (Q3.out.below ((Below.refl W3.heap.size W3).drew)))
   have NA:Hid (∀ g,w.heap.size≤g→∀ k,(Value.slice Au mu cu).ownBlock=some k→k≠g):=Ac (fun g hg k hk e=>by have:=(HU.out.row.lt k hk).2;omega)
   have N07:Hid (w.heap.size≠w.heap.size+1):=Ac (by omega)
   have N08:Hid (w.heap.size≠w.heap.size+1+1):=Ac (by omega)
   have N7:Hid (pb≠w.heap.size+1):=Ac (by omega)
   have N8:Hid (pb≠w.heap.size+1+1):=Ac (by omega)
   have NA7:=Ac (NA.out (w.heap.size+1) (Nat.le_succ _))
   have NA8:=Ac (NA.out (w.heap.size+1+1) (by omega))
   have KD4:=Ac (fun W (h:Below W3.heap.size W3 W) (y:Int) (hy:y=((1:Nat):Int))=>by have q:=KD1.out W (Q3.out.below h).ss;rw [← hy] at q;exact q)
   go_region_held3 (fun w'=>w'.cell? ⟨w.heap.size,0,none⟩=some (.int .i64 n1)∧w'.cell? ⟨w.heap.size,1,none⟩=some (.int .i64 1)∧w'.cell? ⟨w.heap.size,2,none⟩=some (.int .i64 l1)∧w'.cell? ⟨w.heap.size,3,none⟩=some (.slice A0 s1.length c0)∧w'.cell? ⟨pb,o,none⟩=some (.int .i64 un)∧w'.cell? ⟨pb,o+1,none⟩=some (.int .i64 2)∧w'.cell? ⟨pb,o+2,none⟩=some (.int .i64 ul)∧w'.cell? ⟨pb,o+3,none⟩=some (.slice Au mu cu)) (first | (with_reducible exact k7.out) | (with_reducible exact k6.out) | (with_reducible exact k5.out) | (with_reducible exact k4.out) | (with_reducible exact k3.out) | go_keep)
    (first
      | (go_at_call 132;(with_reducible refine (KD4.out _ ((Below.refl _ _).drew) _ (by omega)).mono ?_);rintro en w4 ⟨rfl,hb4⟩;have B4:=Ac (show Below W3.heap.size W3 w4 from ((Below.refl W3.heap.size W3).drew).trans (show Below W3.heap.size W3.drew w4 from hb4));have H4:=Ac (R0.out.Aj (((Below.refl W3.heap.size W3).drew).trans hb4));have Q4:=Ac (Q3.out.below (((Below.refl W3.heap.size W3).drew).trans hb4));have k4:=Ac (at8 H4.out Q4.out);clear hb4)
      | (go_at_call 62;(with_reducible refine (LD.out _ (P3.out.below B4.out) (M3.out.below B4.out)).mono ?_);rintro en w5 ⟨A1,c1,X5,rfl,hp5,ht5,ho5,hq5⟩;have P5:=Ac hp5;have T5:=Ac (((Turn.below X B4.out).trans ht5));have O5:=Ac ho5;have Z5:=Ac hq5;have G0:=Ac (T5.out.has R0.out (NX.out _ (Nat.le_refl _)));have Q5:=Ac (Q3.out.turn T5.out);have k5:=Ac (at8 G0.out Q5.out);have H6:=Ac (Bl G0.out N07.out (.int .i64 n1) (.int .i64 1) (.int .i64 l1) (.slice A0 s1.length c0));have Q6:=Ac (UpM.Ij Q5.out N7.out NA7.out (.int .i64 n1) (.int .i64 1) (.int .i64 l1) (.slice A0 s1.length c0));have k6:=Ac (at8 H6.out Q6.out);have H7:=Ac (Bl H6.out N08.out (.int .i64 n2) (.int .i64 1) (.int .i64 l2) (.slice A1 s2.length c1));have Q7:=Ac (UpM.Ij Q6.out N8.out NA8.out (.int .i64 n2) (.int .i64 1) (.int .i64 l2) (.slice A1 s2.length c1));have k7:=Ac (at8 H7.out Q7.out);have y7:=(T5.out.has R7.out (NX.out _ (Nat.le_succ _))).lt;have f7:=(T5.out.has R7.out (NX.out _ (Nat.le_succ _))).frozen;have y8:=(T5.out.has R8.out (NX.out _ (by omega))).lt;have f8:=(T5.out.has R8.out (NX.out _ (by omega))).frozen;obtain ⟨a0,a1,a2,a3⟩:=(T5.out.has R7.out (NX.out _ (Nat.le_succ _))).cells4;obtain ⟨d0,d1,d2,d3⟩:=(T5.out.has R8.out (NX.out _ (by omega))).cells4;clear hp5 ht5 ho5 hq5))
   go_wp2_with fail
   go_meet
   have o7:some (w.heap.size+1)∉X5:=T5.out.out (NX.out _ (Nat.le_succ _)) R7.out.lt
   have o8:some (w.heap.size+1+1)∉X5:=T5.out.out (NX.out _ (by omega)) R8.out.lt
   have tb7:tb≠w.heap.size+1:=by have:=HT.out.has.lt;omega
   have tb8:tb≠w.heap.size+1+1:=by have:=HT.out.has.lt;omega
   have ge7:w.heap.size≤w.heap.size+1:=Nat.le_succ _
   have ge8:w.heap.size≤w.heap.size+1+1:=by omega
   have h7:=T5.out.has R7.out (NX.out _ (Nat.le_succ _))
   have h8:=T5.out.has R8.out (NX.out _ (by omega))
   have d78:w.heap.size+1≠w.heap.size+1+1:=by omega
   have ssl:=SS.Dv O5.out
   have ssa:=(HS0.out.1.keep HB3.out).stay T5.out.size fun a e=>T5.out.block _ (Nat.lt_of_lt_of_le (HS0.out.2 a e).2 HB3.out.size) (HS0.out.2 a e).1
   have bs:=B4.out.size;have rz8:=R8.out.lt;have s3:=HB3.out.size;have s5:=T5.out.size
   have xl:∀ a,A1=some a→some a.block∉X5∧a.block<w5.heap.size∧a.block≠w.heap.size+1∧a.block≠w.heap.size+1+1:=fun a e=>by
    subst e;have q:=O5.out.lt a.block rfl
    exact ⟨Z5.out a.block rfl,q.2,by omega,by omega⟩
   have xa:∀ a,A0=some a→some a.block∉X5∧a.block<w5.heap.size∧a.block≠w.heap.size+1∧a.block≠w.heap.size+1+1:=fun a e=>by
    have q:=HS0.out.2 a e
    exact ⟨T5.out.out q.1 (by omega),by omega,by omega,by omega⟩
   have hz7:((((((((w5.setCell ⟨w.heap.size+1,0,none⟩ (.int .i64 n1)).setCell ⟨w.heap.size+1,1,none⟩ (.int .i64 1)).setCell ⟨w.heap.size+1,2,none⟩ (.int .i64 l1)).setCell ⟨w.heap.size+1,3,none⟩ (.slice A0 s1.length c0)).setCell ⟨w.heap.size+1+1,0,none⟩ (.int .i64 n2)).setCell ⟨w.heap.size+1+1,1,none⟩ (.int .i64 1)).setCell ⟨w.heap.size+1+1,2,none⟩ (.int .i64 l2)).setCell ⟨w.heap.size+1+1,3,none⟩ (.slice A1 s2.length c1)).heap.size=w5.heap.size:=by simp
   have tbl:=HT.out.has.lt;have pbl:=HU.out.hb.lt
   refine ⟨rfl,_,_,X5,A0,A1,c0,c1,_,rfl,rfl,rfl,⟨((P5.out.Me o7).Me o8),(((M3.out.turn T5.out).Me tb7).Me tb8),Q7.out,(((U3.out.trans T5.out).Ho ge7).Ho ge8),⟨Bl (Fq h7 _ _ _ _) d78 _ _ _ _,Fq (Bl h8 d78.symm _ _ _ _) _ _ _ _,o7,o8,Nat.lt_succ_self _,(ssa.Ij (fun a e=>(xa a e).2.2.1) _ _ _ _).Ij (fun a e=>(xa a e).2.2.2) _ _ _ _,(ssl.Ij (fun a e=>(xl a e).2.2.1) _ _ _ _).Ij (fun a e=>(xl a e).2.2.2) _ _ _ _,fun a e=>⟨(xa a e).1,by rw [hz7];exact (xa a e).2.1,(xa a e).2.2⟩,fun a e=>⟨(xl a e).1,by rw [hz7];exact (xl a e).2.1,(xl a e).2.2⟩⟩,by rw [hz7];omega,by rw [hz7];omega,by rw [hz7];omega,fun g hg=>by rw [hz7];exact (Q5.out.row.lt g hg).2,fun g hg=>by have:=(HU.out.row.lt g hg).2;omega,fun a e=>by rw [hz7];exact (xa a e).2.1,fun a e=>by rw [hz7];exact (xl a e).2.1,by rw [hz7];omega,Nat.le_refl _⟩⟩
 case rest =>
  obtain ⟨rfl,b7,b8,X1,A1,A2,c1,c2,z,rfl,rfl,hz,jx⟩:=hcut;have J0:=Ac jx;obtain ⟨a0,a1,a2,a3⟩:=jx.jn.z7.cells4;have az:=jx.jn.z7.lt;clear jx;clear R0 R7 R8 HB3 P3 M3 Q3 U3 NX HSD HIV HS0 HP HT HU
  go_wp2_with fail
  have q9:=Has.new wc 116 #[.int .i64 n1,.int .i64 1,.int .i64 l1,.slice A1 s1.length c1];have bq:=Ag wc (.cells #[.int .i64 n1,.int .i64 1,.int .i64 l1,.slice A1 s1.length c1] 116);have J1:=Ac (J0.out.below bq)
  have N1:Hid (some wc.heap.size∉X1):=Ac (fun hm=>by have:=J0.out.pt.lt _ hm;omega)
  have H9:=Ac q9;clear q9 bq J0 a0 a1 a2 a3 az
  generalize wc.alloc (.cells #[.int .i64 n1,.int .i64 1,.int .i64 l1,.slice A1 s1.length c1] 116)=W1 at *
  rw [← hz] at H9 N1 ⊢;clear hz
  refine (Gn J1.out.jn.r1 (by have:=HL.out;omega)).mono ?_
  rintro en w2 ⟨va,rfl,ho2,hb2⟩;obtain ⟨A9,c9,rfl,hc9⟩:=Bd ho2;have J2:=Ac (J1.out.below hb2);have H2:=Ac (H9.out.Aj hb2);have zz2:=J1.out.zz
  have NW3:Hid (Nw (w2.setCell ⟨z,3,none⟩ (.slice A9 s1.length c9)) X1 z z n1 1 l1 s1.length c9 A9 s1):=Ac ⟨Nat.le_refl _,H2.out.set 3 _,N1.out,Bf (own_base ho2 zz2) (fun g hg=>Below.heap_setCell _ _ _ _ (fun e=>by have e2:g=z:=e;have:=(ho2.lt g hg).1;have:=H9.out.lt;omega)),fun g hg=>⟨fun hm=>by have:=J1.out.pt.lt g hm;have:=(ho2.lt g hg).1;omega,fun e=>by have:=(ho2.lt g hg).1;have:=H9.out.lt;omega⟩⟩
  have J3:=Ac (J2.out.set (Nat.le_refl z) N1.out 3 (.slice A9 s1.length c9));obtain ⟨x0,x1,x2,x3⟩:=H2.out.cells4;have xf:=H2.out.frozen;have xz:=H2.out.lt;obtain ⟨a0,a1,a2,a3⟩:=J2.out.jn.z7.cells4;have az:=J2.out.jn.z7.lt;have d7:b7<z:=Nat.lt_trans J2.out.jn.d J2.out.z8;have d8:b8<z:=J2.out.z8;clear ho2 hb2 J1 H9 J2 H2 zz2
  go_wp2_with fail
  generalize w2.setCell ⟨z,3,none⟩ (.slice A9 s1.length c9)=W3 at *
  clear x0 x1 x2 x3 xf xz a0 a1 a2 a3 az
  refine (Ko n1 l1 (.slice A1 s1.length c1) W3).mono ?_
  rintro en w4 ⟨rfl,hb4⟩;have J4:=Ac (J3.out.below hb4);have NW4:=Ac (NW3.out.below hb4);obtain ⟨x0,x1,x2,x3⟩:=NW4.out.hz.cells4;obtain ⟨i0,hi0,hz0,hz1,hz2⟩:=info_parts Np;clear hb4 J3 NW3;have E9:=Ac HBS.out
  have TL:=Ac (show s1.length≤1001 by have:=HL.out;omega)
  obtain ⟨a0,a1,a2,a3⟩:=J4.out.jn.z8.cells4
  have G1:Hid (s1.length+s2.length≤maxLen):=Ac (by have:=HL.out;have:=TL.out;unfold maxLen;omega)
  have G2:Hid ((s1.length+s2.length)*16≤140737488355328):=Ac (by have:=HL.out;have:=TL.out;omega)
  have G3:Hid (z≤w4.heap.size):=Ac J4.out.zz
  go_wp2_with (at_builtin;refine Dh _ rfl (.tmp 72) (.tmp 75) 44 44 rfl z 9 i0 _ 1 16 Tryz.underlying44 hi0 hz0 hz1 hz2 rfl (by decide) (.slice A9 s1.length c9) s1.length (strs s1) rfl NW4.out.row (.slice A2 s2.length c2) s2.length (strs s2) rfl J4.out.jn.r2.src G1.out G2.out G3.out ?_;intro v5 w5 ho5 hg5 _ hat5;obtain ⟨A5,c5,rfl,hc5⟩:=Bd ho5;have HO5:=Ac ho5;have HG5:=Ac hg5;have HA5:=Ac hat5;have x5:=Ac (NW4.out.FA0 hg5);clear ho5 hg5 hat5 x0 x1 x2 x3 a0 a1 a2 a3;obtain ⟨x0,x1,x2,x3⟩:=x5.out.cells4;have xf:=x5.out.frozen;have xz:=x5.out.lt)
  have NW6:=Ac (NW4.out.app (fun g hg=>J4.out.pt.lt g hg) List.length_append.symm HO5.out HG5.out HA5.out)
  have J6:=Ac ((J4.out.grown HG5.out (fun g hg=>⟨(NW4.out.row.lt g hg).1,(NW4.out.rx g hg).1⟩)).set (Nat.le_refl z) N1.out 3 (.slice A5 (s1++s2).length c5))
  have HM:=Ac (show (s1++s2).length≤2001 by rw [List.length_append];have:=HL.out;have:=TL.out;omega)
  have CAP:=Ac (Xb NW6.out.row).2
  rw [show s1.length+s2.length=(s1++s2).length from List.length_append.symm]
  rw [E9.out] at NW6 J6 HM CAP ⊢;clear x5 x0 x1 x2 x3 xf xz HO5 HG5 HA5 J4 NW4 G1 G2 G3 hc5
  generalize w5.setCell ⟨z,3,none⟩ (.slice A5 bs.length c5)=W6 at *
  have US:=Ac (Gh A5 bs.length c5 bs W6 NW6.out.ss (by have:=HM.out;omega) (by have:=HFIT.out;omega))
  obtain ⟨us,hus⟩:∃ us,Be bs=us:=⟨_,rfl⟩;rw [hus] at US
  have u1:(us:Int)≤1012:=by have:=HFIT.out;omega
  refine US.out.mono ?_
  rintro en w6 ⟨rfl,rfl⟩;clear US hus;obtain ⟨a0,a1,a2,a3⟩:=J6.out.jn.z7.cells4
  go_wp2_with fail
  refine (Ko n1 l1 (.slice A1 s1.length c1) W6).mono ?_
  rintro en w7 ⟨rfl,hb7⟩;have J7:=Ac (J6.out.below hb7);have NW7:=Ac (NW6.out.below hb7);clear hb7 J6 NW6 a0 a1 a2 a3;obtain ⟨x0,x1,x2,x3⟩:=NW7.out.hz.cells4;have xf:=NW7.out.hz.frozen;have xz:=NW7.out.hz.lt;obtain ⟨a0,a1,a2,a3⟩:=J7.out.jn.z8.cells4
  go_wp2_with fail
  have J8:=Ac (J7.out.set (Nat.le_refl z) N1.out 2 (.int .i64 l2));have NW8:=Ac (NW7.out.link l2);clear J7 NW7 a0 a1 a2 a3 x0 x1 x2 x3 xf xz
  generalize w7.setCell ⟨z,2,none⟩ (.int .i64 l2)=W8 at *
  have PGB:Qq (1,l2,bs):=⟨by show 1≤1;omega,by show 1≤5;omega,by have:=HL.out;show l2≤_;omega,HFIT.out⟩
  refine (Dp (n:=n1) (cp:=c5) (pg:=(1,l2,bs)) J8.out.pt J8.out.tm (by have:=HCK.out;omega) (by have:=HCK.out;omega) HN.out.1.1 HN.out.1.2.1 HN.out.1.2.2 PGB NW8.out.ss (by have:=HM.out;omega)).mono ?_
  rintro en w9 ⟨rfl,X9,hp9,ht9⟩;have J9:=Ac (J8.out.turn ht9 hp9);clear hp9 ht9 J8 NW8 PGB N1;have t0:=J9.out.tm.has.cell 0;have a0:=J9.out.jn.z8.cell 0
  have FR:=Ac (fun W (h:PT W X9 p (S.set n1 (1,l2,bs)) S0 (c+1) (k+1+1))=>Zi (x:=n2) h (by have:=HCK.out;omega) (by have:=HCK.out;omega) HN.out.2.1.1 HN.out.2.1.2.1 HN.out.2.1.2.2)
  go_wp2_with fail
  go_region_held3 (fun w'=>w'.cell? ⟨tb,0,none⟩=some (.pointer (some ⟨p,0,none⟩))∧w'.cell? ⟨b8,0,none⟩=some (.int .i64 n2)) (first | exact (⟨J10.out.tm.has.cell 0,J10.out.jn.z8.cell 0⟩) | go_keep)
   (first
     | (go_at_call 80;refine (FR.out _ (Zp J9.out.pt)).mono ?_;rintro en w10 ⟨rfl,X10,hp10,ht10⟩;have J10:=Ac ((J9.out.below ((Below.refl w9.heap.size w9).drew)).turn ht10 hp10);clear hp10 ht10)
     | (go_at_call 129;refine (Et _).mono ?_;rintro e w1 ⟨rfl,rfl⟩))
  obtain ⟨u0,u1,u2,u3,u4⟩:=J10.out.up.at5;have uf:=J10.out.up.hb.frozen;have uz:=J10.out.up.hb.lt;clear t0 a0 FR J9
  have hcl:u<mu:=by
   have h1:=J10.out.up.row.1;rw [Dt,← HCE.out,List.length_map,List.length_drop,HIT.out.1,List.length_append,HIT.out.2.1] at h1;simp at h1;omega
  have u9:u≤1000:=HUO.out.2.2.2
  have DL:=Ac (Rq (i:=u) (x:=(u:Int)) (y:=(u:Int)+1) J10.out.up.row hcl (by have:=HUO.out;omega) rfl rfl)
  go_wp2_with (go_at_call 56;(with_reducible refine DL.out.mono ?_);rintro en w11 ⟨v11,rfl,ho11,hg11,hat11⟩;obtain ⟨A11,c11,rfl,hc11⟩:=Bd ho11;have HO11:=Ac ho11;have HG11:=Ac hg11;have HA11:=Ac hat11;have nru:=Ac (show Has w11 pb 122 cur from (hg11.block pb J10.out.up.hb.lt (fun e=>(J10.out.up.rx pb e.symm).2 rfl)).trans J10.out.up.hb);clear ho11 hg11 hat11 u0 u1 u2 u3 u4 uf uz;have uf:=nru.out.frozen;have uz:=nru.out.lt;have u3:w11.cell? ⟨pb,o+3,none⟩=some (.slice Au mu cu):=(nru.out.cell _).trans J10.out.up.c3)
  have CE:cells.eraseIdx u=(cells.take u++cells.drop (u+1)):=List.eraseIdx_eq_take_drop_succ ..
  have CL:(cells.take u++cells.drop (u+1)).length=mu-1:=by
   have h1:=HO11.out.1;rw [Dt] at h1;omega
  have e11:∀ g,(Value.slice A11 (mu-1) c11).ownBlock=some g→some g∉X10∧g≠pb:=fun g hg=>by
   rcases HA11.out with e | e
   ·exact J10.out.up.rx g (by rw [← e];exact hg)
   ·have e5:g=w10.heap.size:=Option.some.inj (hg.symm.trans e)
    exact ⟨fun hm=>by have:=J10.out.pt.lt g hm;omega,by have:=J10.out.up.hb.lt;omega⟩
  have pt11:PT (w11.setCell ⟨pb,o+3,none⟩ (.slice A11 (mu-1) c11)) X10 p ((S.set n1 (1,l2,bs)).free n2) S0 (c+3) (k+5):=(J10.out.pt.grown HG11.out (fun g hg=>(J10.out.up.rx g hg).1)).set J10.out.up.nb (o+3) (.slice A11 (mu-1) c11)
  have tu11:=Vz (v':=.slice A11 (mu-1) c11) (pb:=pb) J10.out.tu HG11.out (fun g hg=>by
   rcases HA11.out with e | e
   ·exact .inl (by rw [← e];exact hg)
   ·have e5:g=w10.heap.size:=Option.some.inj (hg.symm.trans e)
    exact .inr (by omega)) (o+3) (.slice A11 (mu-1) c11)
  have up11:UpM (w11.setCell ⟨pb,o+3,none⟩ (.slice A11 (mu-1) c11)) X10 pb o un ul ui (mu-1) c11 A11 (cur.setIfInBounds (o+3) (.slice A11 (mu-1) c11)) (cells.take u++cells.drop (u+1)):=by
   exact ⟨nru.out.set _ _,by rw [Array.getElem?_setIfInBounds,if_neg (by omega)];exact J10.out.up.c0,by rw [Array.getElem?_setIfInBounds,if_neg (by omega)];exact J10.out.up.c1,by rw [Array.getElem?_setIfInBounds,if_neg (by omega)];exact J10.out.up.c2,by rw [Array.getElem?_setIfInBounds,if_pos rfl,if_pos HUO.out.2.2.1],by rw [Array.getElem?_setIfInBounds,if_neg (by omega)];exact J10.out.up.c4,J10.out.up.nb,Bf HO11.out (fun g hg=>Below.heap_setCell _ _ _ _ (e11 g hg).2),e11⟩
  have wsz:∀ g,(Value.slice A11 (mu-1) c11).ownBlock=some g→(Value.slice Au mu cu).ownBlock=some g∨w.heap.size≤g:=fun g hg=>by
   rcases HA11.out with e | e
   ·exact .inl (by rw [← e];exact hg)
   ·have e5:g=w10.heap.size:=Option.some.inj (hg.symm.trans e)
    exact .inr (by have:=J10.out.tu.size;omega)
  rw [← CL] at pt11 tu11 up11 wsz ⊢
  have FIN:=Ac (show Tq w X p pb o un ul ui (.slice Au mu cu) cur ((S.set n1 (1,l2,bs)).free n2) S0 (c+3) (k+5) (cells.eraseIdx u) (.returned (.tuple #[])) (w11.setCell ⟨pb,o+3,none⟩ (.slice A11 (cells.take u++cells.drop (u+1)).length c11)) from by
   rw [CE];exact ⟨rfl,X10,A11,c11,pt11,tu11,up11,wsz⟩)
  refine bodyPost_ret (results_none rfl _ _ _) rfl ?_
  exact FIN.out
theorem KP0 {w:World} {X:List (Option Nat)} {tb p root c k pb o un u ui mu cu n0 l0 c0 n1 l1 n2 l2:Nat} {Au A0:Option Addr} {cur:Array Value} {S S0:St} {its U V:List It} {itL itR:It} {s0 s1 s2 bs:List ByteArray}
 (h:PT w X p S S0 c k) (ht:TM w X tb p root) (hc:c+10≤60000) (hk:k≤800000000)
 (hu:UpM w X pb o un (Dz (its.headD ⟨[],[]⟩).r) ui mu cu Au cur ((its.drop 1).map Af)) (hits:its=U++itL :: itR :: V) (hU:U.length=u) (hu9:u≤1000) (hw:LX0 its) (hl4:itL.r=Ak n1) (hr4:itR.r=Ak n2) (hm:mu≤1000) (ho:o≤1000) (ho2:o+3<cur.size)
 (hs0:SS w A0 s0.length s0) (hx0:∀ a,A0=some a→some a.block∉X∧a.block<w.heap.size)
 (hside:(ui=u+1∧n2=n0∧l2=l0∧s2=s0∧S.G n1=(2,l1,s1))∨(ui=0∧u=0∧n1=n0∧l1=l0∧s1=s0∧S.G n2=(2,l2,s2)))
 (h1:s1.length≤1000) (h2:s2.length≤1000) (hn1:0<n1∧n1<S.q∧n1∉S.fr) (hn2:0<n2∧n2<S.q∧n2∉S.fr) (h12:n1≠n2) (hl1:l1≤2147483647) (hl2:l2≤2147483647) (hbs:s1++Af ⟨itR.k,Ak l2⟩ :: s2=bs) (hfit:Be bs≤1012) :
 Calls Tryz.prog 145 #[.pointer (some ⟨tb,0,none⟩),.pointer (some ⟨pb,o,none⟩),.agg #[.int .i64 n0,.int .i64 2,.int .i64 l0,.slice A0 s0.length c0]] w
  (Tq w X p pb o un (Dz (its.headD ⟨[],[]⟩).r) ui (.slice Au mu cu) cur ((S.set n1 (2,l1,bs)).free n2) S0 (c+3) (k+5) (((its.drop 1).map Af).eraseIdx u)):=by
 have hok:=h.ok;have HP:=Ac h;have HT:=Ac ht;have HCK:=Ac (And.intro hc hk);have HU:=Ac hu;have HSD:=Ac hside;have HN:=Ac (And.intro hn1 (And.intro hn2 h12));have HL:=Ac (And.intro h1 (And.intro h2 (And.intro hl1 hl2)));have HFIT:=Ac hfit;have HBS:=Ac hbs;have HUO:=Ac (And.intro hm (And.intro ho (And.intro ho2 hu9)));have HOK:=Ac hok;have HIT:=Ac (And.intro hits (And.intro hU (And.intro hw (And.intro hl4 hr4))))
 obtain ⟨ul,hul⟩:∃ x,Dz (its.headD ⟨[],[]⟩).r=x:=⟨_,rfl⟩;have HUL:=Ac hul;rw [hul] at HU hu ⊢;obtain ⟨cells,hce⟩:∃ x,(its.drop 1).map Af=x:=⟨_,rfl⟩;have HCE:=Ac hce;rw [hce] at HU hu ⊢;obtain ⟨g0,g1,g2,g3,g4⟩:=hu.at5;obtain ⟨iv,hiv⟩:∃ iv:Int,iv=(ui:Int):=⟨_,rfl⟩;rw [← hiv] at g4;have HIV:=Ac hiv;have gf:=hu.hb.frozen;have gz:=hu.hb.lt;have ltx:=Ac h.lt;have HS0:=Ac (And.intro hs0 hx0);clear h ht hc hk hok hu hul hce hs0 hx0 hits hU hw hl4 hr4 hside hn1 hn2 h12 h1 h2 hl1 hl2 hfit hm ho ho2 hu9 hiv hbs
 go_enter Tryz.func145,Tryz.ntmps145
 go_upto_if 18 with fail
 have BX0:=(Has.new w 116 #[.int .i64 n0,.int .i64 2,.int .i64 l0,.slice A0 s0.length c0]);have BX7:=(Has.new (w.alloc (.cells #[.int .i64 n0,.int .i64 2,.int .i64 l0,.slice A0 s0.length c0] 116)) 116 #[.int .i64 0,.int .i64 0,.int .i64 0,.slice none 0 0]);have BX8:=(Has.new ((w.alloc (.cells #[.int .i64 n0,.int .i64 2,.int .i64 l0,.slice A0 s0.length c0] 116)).alloc (.cells #[.int .i64 0,.int .i64 0,.int .i64 0,.slice none 0 0] 116)) 116 #[.int .i64 0,.int .i64 0,.int .i64 0,.slice none 0 0])
 simp only [World.size_alloc] at BX7 BX8
 have B3:=(((Below.refl w.heap.size w).alloc (Nat.le_refl _) (.cells #[.int .i64 n0,.int .i64 2,.int .i64 l0,.slice A0 s0.length c0] 116)).alloc (by simp) (.cells #[.int .i64 0,.int .i64 0,.int .i64 0,.slice none 0 0] 116)).alloc (by simp;omega) (.cells #[.int .i64 0,.int .i64 0,.int .i64 0,.slice none 0 0] 116)
 have R0:=Ac ((BX0.alloc (.cells #[.int .i64 0,.int .i64 0,.int .i64 0,.slice none 0 0] 116)).alloc (.cells #[.int .i64 0,.int .i64 0,.int .i64 0,.slice none 0 0] 116));have R7:=Ac (BX7.alloc (.cells #[.int .i64 0,.int .i64 0,.int .i64 0,.slice none 0 0] 116));have R8:=Ac BX8;have HB3:=Ac B3;clear BX0 BX7 BX8 B3
 generalize (((w.alloc (.cells #[.int .i64 n0,.int .i64 2,.int .i64 l0,.slice A0 s0.length c0] 116)).alloc (.cells #[.int .i64 0,.int .i64 0,.int .i64 0,.slice none 0 0] 116)).alloc (.cells #[.int .i64 0,.int .i64 0,.int .i64 0,.slice none 0 0] 116))=W3 at *
 have P3:=Ac (HP.out.below HB3.out);have M3:=Ac (HT.out.below HB3.out);have Q3:=Ac (HU.out.below HB3.out);have U3:=Ac (Turn.below X HB3.out)
 have NX:Hid (∀ i,w.heap.size≤i→some i∉X):=Ac (fun i hi hm=>by have:=ltx.out _ hm;omega)
 clear g0 g1 g2 g3 g4 gf
 go_cut [6,7,8] (fun v6 v7 v8 wx=>FD1 w X tb p root c (k+1) pb o un ul ui mu cu u n1 n2 2 l1 l2 Au cur cells s1 s2 S S0 v6 v7 v8 wx)
 case first =>
  obtain hsd:=HSD.out
  rcases hsd with ⟨hui,rfl,rfl,rfl,hG⟩ | ⟨hui,rfl,rfl,rfl,rfl,hG⟩
  ·have LD:=Ac (fun W (h:PT W X p S S0 c k) (ht:TM W X tb p root)=>Gg (n:=n1) h ht (by have:=HCK.out;omega) (by have:=HCK.out;omega) (by have:=HN.out;omega) (HOK.out.pg _ (by have:=HN.out;omega)) (by rw [hG];simp))
   rw [hG] at LD
   have KD0:=(fun W (h:SS W Au mu ((its.drop 1).map Af))=>Ie un mu cu Au its W HIT.out.1 h HIT.out.2.2.1 (by rw [HIT.out.2.2.2.1];rfl) (by have:=HUO.out;omega))
   rw [HIT.out.2.2.2.1,Du (by have:=HOK.out.few;have:=HN.out;omega),HIT.out.2.1,HUL.out,HCE.out] at KD0
   have i0:(0:Int)<(u:Int)+1:=by omega
   have wu:IntKind.i64.wrap (u:Int)=(u:Int):=IntWalk.i64_in _ ⟨by omega,by have:=HIT.out.2.1;have:=HUO.out;omega⟩
   have KD1:=Ac KD0
   obtain rfl:iv=(u:Int)+1:=by have:=HIV.out;omega
   clear KD0 hG hui;obtain ⟨g0,g1,g2,g3,g4⟩:=Q3.out.at5;have gf:=Q3.out.hb.frozen;have gz3:=Q3.out.hb.lt;obtain ⟨r0,r1,r2,r3⟩:=R0.out.cells4;have rz:=R0.out.lt
   go_upto_region 4 with fail
   have k3:=Ac (at8 (R0.out.drew) (Q3.out.below ((Below.refl W3.heap.size W3).drew)))
   have NA:Hid (∀ g,w.heap.size≤g→∀ k,(Value.slice Au mu cu).ownBlock=some k→k≠g):=Ac (fun g hg k hk e=>by have:=(HU.out.row.lt k hk).2;omega)
   have N07:Hid (w.heap.size≠w.heap.size+1):=Ac (by omega)
   have N08:Hid (w.heap.size≠w.heap.size+1+1):=Ac (by omega)
   have N7:Hid (pb≠w.heap.size+1):=Ac (by omega)
   have N8:Hid (pb≠w.heap.size+1+1):=Ac (by omega)
   have NA7:=Ac (NA.out (w.heap.size+1) (Nat.le_succ _))
   have NA8:=Ac (NA.out (w.heap.size+1+1) (by omega))
   have KD4:=Ac (fun W (h:Below W3.heap.size W3 W) (y:Int) (hy:y=u)=>by have q:=KD1.out W (Q3.out.below h).ss;rw [← hy] at q;exact q)
   go_region_held3 (fun w'=>w'.cell? ⟨w.heap.size,0,none⟩=some (.int .i64 n2)∧w'.cell? ⟨w.heap.size,1,none⟩=some (.int .i64 2)∧w'.cell? ⟨w.heap.size,2,none⟩=some (.int .i64 l2)∧w'.cell? ⟨w.heap.size,3,none⟩=some (.slice A0 s2.length c0)∧w'.cell? ⟨pb,o,none⟩=some (.int .i64 un)∧w'.cell? ⟨pb,o+1,none⟩=some (.int .i64 2)∧w'.cell? ⟨pb,o+2,none⟩=some (.int .i64 ul)∧w'.cell? ⟨pb,o+3,none⟩=some (.slice Au mu cu)) (first | (with_reducible exact k7.out) | (with_reducible exact k6.out) | (with_reducible exact k5.out) | (with_reducible exact k4.out) | (with_reducible exact k3.out) | go_keep)
    (first
      | (go_at_call 132;(with_reducible refine (KD4.out _ ((Below.refl _ _).drew) _ (by first | exact wu | (rw [wu]) | omega)).mono ?_);rintro en w4 ⟨rfl,hb4⟩;have B4:=Ac (show Below W3.heap.size W3 w4 from ((Below.refl W3.heap.size W3).drew).trans (show Below W3.heap.size W3.drew w4 from hb4));have H4:=Ac (R0.out.Aj (((Below.refl W3.heap.size W3).drew).trans hb4));have Q4:=Ac (Q3.out.below (((Below.refl W3.heap.size W3).drew).trans hb4));have k4:=Ac (at8 H4.out Q4.out);clear hb4)
      | (go_at_call 62;(with_reducible refine (LD.out _ (P3.out.below B4.out) (M3.out.below B4.out)).mono ?_);rintro en w5 ⟨A1,c1,X5,rfl,hp5,ht5,ho5,hq5⟩;have P5:=Ac hp5;have T5:=Ac (((Turn.below X B4.out).trans ht5));have O5:=Ac ho5;have Z5:=Ac hq5;have G0:=Ac (T5.out.has R0.out (NX.out _ (Nat.le_refl _)));have Q5:=Ac (Q3.out.turn T5.out);have k5:=Ac (at8 G0.out Q5.out);have H6:=Ac (Bl G0.out N07.out (.int .i64 n1) (.int .i64 2) (.int .i64 l1) (.slice A1 s1.length c1));have Q6:=Ac (UpM.Ij Q5.out N7.out NA7.out (.int .i64 n1) (.int .i64 2) (.int .i64 l1) (.slice A1 s1.length c1));have k6:=Ac (at8 H6.out Q6.out);have H7:=Ac (Bl H6.out N08.out (.int .i64 n2) (.int .i64 2) (.int .i64 l2) (.slice A0 s2.length c0));have Q7:=Ac (UpM.Ij Q6.out N8.out NA8.out (.int .i64 n2) (.int .i64 2) (.int .i64 l2) (.slice A0 s2.length c0));have k7:=Ac (at8 H7.out Q7.out);have y7:=(T5.out.has R7.out (NX.out _ (Nat.le_succ _))).lt;have f7:=(T5.out.has R7.out (NX.out _ (Nat.le_succ _))).frozen;have y8:=(T5.out.has R8.out (NX.out _ (by omega))).lt;have f8:=(T5.out.has R8.out (NX.out _ (by omega))).frozen;obtain ⟨a0,a1,a2,a3⟩:=(T5.out.has R7.out (NX.out _ (Nat.le_succ _))).cells4;obtain ⟨d0,d1,d2,d3⟩:=(T5.out.has R8.out (NX.out _ (by omega))).cells4;clear hp5 ht5 ho5 hq5))
   go_wp2_with fail
   go_meet
   have o7:some (w.heap.size+1)∉X5:=T5.out.out (NX.out _ (Nat.le_succ _)) R7.out.lt
   have o8:some (w.heap.size+1+1)∉X5:=T5.out.out (NX.out _ (by omega)) R8.out.lt
   have tb7:tb≠w.heap.size+1:=by have:=HT.out.has.lt;omega
   have tb8:tb≠w.heap.size+1+1:=by have:=HT.out.has.lt;omega
   have ge7:w.heap.size≤w.heap.size+1:=Nat.le_succ _
   have ge8:w.heap.size≤w.heap.size+1+1:=by omega
   have h7:=T5.out.has R7.out (NX.out _ (Nat.le_succ _))
   have h8:=T5.out.has R8.out (NX.out _ (by omega))
   have d78:w.heap.size+1≠w.heap.size+1+1:=by omega
   have ssl:=SS.Dv O5.out
   have ssa:=(HS0.out.1.keep HB3.out).stay T5.out.size fun a e=>T5.out.block _ (Nat.lt_of_lt_of_le (HS0.out.2 a e).2 HB3.out.size) (HS0.out.2 a e).1
   have bs:=B4.out.size;have rz8:=R8.out.lt;have s3:=HB3.out.size;have s5:=T5.out.size
   have xl:∀ a,A1=some a→some a.block∉X5∧a.block<w5.heap.size∧a.block≠w.heap.size+1∧a.block≠w.heap.size+1+1:=fun a e=>by
    subst e;have q:=O5.out.lt a.block rfl
    exact ⟨Z5.out a.block rfl,q.2,by omega,by omega⟩
   have xa:∀ a,A0=some a→some a.block∉X5∧a.block<w5.heap.size∧a.block≠w.heap.size+1∧a.block≠w.heap.size+1+1:=fun a e=>by
    have q:=HS0.out.2 a e
    exact ⟨T5.out.out q.1 (by omega),by omega,by omega,by omega⟩
   have hz7:((((((((w5.setCell ⟨w.heap.size+1,0,none⟩ (.int .i64 n1)).setCell ⟨w.heap.size+1,1,none⟩ (.int .i64 2)).setCell ⟨w.heap.size+1,2,none⟩ (.int .i64 l1)).setCell ⟨w.heap.size+1,3,none⟩ (.slice A1 s1.length c1)).setCell ⟨w.heap.size+1+1,0,none⟩ (.int .i64 n2)).setCell ⟨w.heap.size+1+1,1,none⟩ (.int .i64 2)).setCell ⟨w.heap.size+1+1,2,none⟩ (.int .i64 l2)).setCell ⟨w.heap.size+1+1,3,none⟩ (.slice A0 s2.length c0)).heap.size=w5.heap.size:=by simp
   have tbl:=HT.out.has.lt;have pbl:=HU.out.hb.lt
   refine ⟨rfl,_,_,X5,A1,A0,c1,c0,_,rfl,rfl,rfl,⟨((P5.out.Me o7).Me o8),(((M3.out.turn T5.out).Me tb7).Me tb8),Q7.out,(((U3.out.trans T5.out).Ho ge7).Ho ge8),⟨Bl (Fq h7 _ _ _ _) d78 _ _ _ _,Fq (Bl h8 d78.symm _ _ _ _) _ _ _ _,o7,o8,Nat.lt_succ_self _,(ssl.Ij (fun a e=>(xl a e).2.2.1) _ _ _ _).Ij (fun a e=>(xl a e).2.2.2) _ _ _ _,(ssa.Ij (fun a e=>(xa a e).2.2.1) _ _ _ _).Ij (fun a e=>(xa a e).2.2.2) _ _ _ _,fun a e=>⟨(xl a e).1,by rw [hz7];exact (xl a e).2.1,(xl a e).2.2⟩,fun a e=>⟨(xa a e).1,by rw [hz7];exact (xa a e).2.1,(xa a e).2.2⟩⟩,by rw [hz7];omega,by rw [hz7];omega,by rw [hz7];omega,fun g hg=>by rw [hz7];exact (Q5.out.row.lt g hg).2,fun g hg=>by have:=(HU.out.row.lt g hg).2;omega,fun a e=>by rw [hz7];exact (xl a e).2.1,fun a e=>by rw [hz7];exact (xa a e).2.1,by rw [hz7];omega,Nat.le_refl _⟩⟩
  ·have LD:=Ac (fun W (h:PT W X p S S0 c k) (ht:TM W X tb p root)=>Gg (n:=n2) h ht (by have:=HCK.out;omega) (by have:=HCK.out;omega) (by have:=HN.out;omega) (HOK.out.pg _ (by have:=HN.out;omega)) (by rw [hG];simp))
   rw [hG] at LD
   have KD0:=(fun W (h:SS W Au mu ((its.drop 1).map Af))=>Ie un mu cu Au its W (U:=U++[itL]) (it:=itR) (V:=V) (by rw [HIT.out.1];simp) h HIT.out.2.2.1 (by rw [HIT.out.2.2.2.2];rfl) (by have:=HUO.out;omega))
   have hU1:(U++[itL]).length=1:=by rw [List.length_append,HIT.out.2.1];rfl
   rw [HIT.out.2.2.2.2,Du (by have:=HOK.out.few;have:=HN.out;omega),hU1,HUL.out,HCE.out] at KD0
   have KD1:=Ac KD0
   obtain rfl:iv=0:=by have:=HIV.out;omega
   clear KD0 hG hui;obtain ⟨g0,g1,g2,g3,g4⟩:=Q3.out.at5;have gf:=Q3.out.hb.frozen;have gz3:=Q3.out.hb.lt;obtain ⟨r0,r1,r2,r3⟩:=R0.out.cells4;have rz:=R0.out.lt
   go_upto_region 6 with fail
   have k3:=Ac (at8 (R0.out.drew) (Q3.out.below ((Below.refl W3.heap.size W3).drew)))
   have NA:Hid (∀ g,w.heap.size≤g→∀ k,(Value.slice Au mu cu).ownBlock=some k→k≠g):=Ac (fun g hg k hk e=>by have:=(HU.out.row.lt k hk).2;omega)
   have N07:Hid (w.heap.size≠w.heap.size+1):=Ac (by omega)
   have N08:Hid (w.heap.size≠w.heap.size+1+1):=Ac (by omega)
   have N7:Hid (pb≠w.heap.size+1):=Ac (by omega)
   have N8:Hid (pb≠w.heap.size+1+1):=Ac (by omega)
   have NA7:=Ac (NA.out (w.heap.size+1) (Nat.le_succ _))
   have NA8:=Ac (NA.out (w.heap.size+1+1) (by omega))
   have KD4:=Ac (fun W (h:Below W3.heap.size W3 W) (y:Int) (hy:y=((1:Nat):Int))=>by have q:=KD1.out W (Q3.out.below h).ss;rw [← hy] at q;exact q)
   go_region_held3 (fun w'=>w'.cell? ⟨w.heap.size,0,none⟩=some (.int .i64 n1)∧w'.cell? ⟨w.heap.size,1,none⟩=some (.int .i64 2)∧w'.cell? ⟨w.heap.size,2,none⟩=some (.int .i64 l1)∧w'.cell? ⟨w.heap.size,3,none⟩=some (.slice A0 s1.length c0)∧w'.cell? ⟨pb,o,none⟩=some (.int .i64 un)∧w'.cell? ⟨pb,o+1,none⟩=some (.int .i64 2)∧w'.cell? ⟨pb,o+2,none⟩=some (.int .i64 ul)∧w'.cell? ⟨pb,o+3,none⟩=some (.slice Au mu cu)) (first | (with_reducible exact k7.out) | (with_reducible exact k6.out) | (with_reducible exact k5.out) | (with_reducible exact k4.out) | (with_reducible exact k3.out) | go_keep)
    (first
      | (go_at_call 132;(with_reducible refine (KD4.out _ ((Below.refl _ _).drew) _ (by omega)).mono ?_);rintro en w4 ⟨rfl,hb4⟩;have B4:=Ac (show Below W3.heap.size W3 w4 from ((Below.refl W3.heap.size W3).drew).trans (show Below W3.heap.size W3.drew w4 from hb4));have H4:=Ac (R0.out.Aj (((Below.refl W3.heap.size W3).drew).trans hb4));have Q4:=Ac (Q3.out.below (((Below.refl W3.heap.size W3).drew).trans hb4));have k4:=Ac (at8 H4.out Q4.out);clear hb4)
      | (go_at_call 62;(with_reducible refine (LD.out _ (P3.out.below B4.out) (M3.out.below B4.out)).mono ?_);rintro en w5 ⟨A1,c1,X5,rfl,hp5,ht5,ho5,hq5⟩;have P5:=Ac hp5;have T5:=Ac (((Turn.below X B4.out).trans ht5));have O5:=Ac ho5;have Z5:=Ac hq5;have G0:=Ac (T5.out.has R0.out (NX.out _ (Nat.le_refl _)));have Q5:=Ac (Q3.out.turn T5.out);have k5:=Ac (at8 G0.out Q5.out);have H6:=Ac (Bl G0.out N07.out (.int .i64 n1) (.int .i64 2) (.int .i64 l1) (.slice A0 s1.length c0));have Q6:=Ac (UpM.Ij Q5.out N7.out NA7.out (.int .i64 n1) (.int .i64 2) (.int .i64 l1) (.slice A0 s1.length c0));have k6:=Ac (at8 H6.out Q6.out);have H7:=Ac (Bl H6.out N08.out (.int .i64 n2) (.int .i64 2) (.int .i64 l2) (.slice A1 s2.length c1));have Q7:=Ac (UpM.Ij Q6.out N8.out NA8.out (.int .i64 n2) (.int .i64 2) (.int .i64 l2) (.slice A1 s2.length c1));have k7:=Ac (at8 H7.out Q7.out);have y7:=(T5.out.has R7.out (NX.out _ (Nat.le_succ _))).lt;have f7:=(T5.out.has R7.out (NX.out _ (Nat.le_succ _))).frozen;have y8:=(T5.out.has R8.out (NX.out _ (by omega))).lt;have f8:=(T5.out.has R8.out (NX.out _ (by omega))).frozen;obtain ⟨a0,a1,a2,a3⟩:=(T5.out.has R7.out (NX.out _ (Nat.le_succ _))).cells4;obtain ⟨d0,d1,d2,d3⟩:=(T5.out.has R8.out (NX.out _ (by omega))).cells4;clear hp5 ht5 ho5 hq5))
   go_wp2_with fail
   go_meet
   have o7:some (w.heap.size+1)∉X5:=T5.out.out (NX.out _ (Nat.le_succ _)) R7.out.lt
   have o8:some (w.heap.size+1+1)∉X5:=T5.out.out (NX.out _ (by omega)) R8.out.lt
   have tb7:tb≠w.heap.size+1:=by have:=HT.out.has.lt;omega
   have tb8:tb≠w.heap.size+1+1:=by have:=HT.out.has.lt;omega
   have ge7:w.heap.size≤w.heap.size+1:=Nat.le_succ _
   have ge8:w.heap.size≤w.heap.size+1+1:=by omega
   have h7:=T5.out.has R7.out (NX.out _ (Nat.le_succ _))
   have h8:=T5.out.has R8.out (NX.out _ (by omega))
   have d78:w.heap.size+1≠w.heap.size+1+1:=by omega
   have ssl:=SS.Dv O5.out
   have ssa:=(HS0.out.1.keep HB3.out).stay T5.out.size fun a e=>T5.out.block _ (Nat.lt_of_lt_of_le (HS0.out.2 a e).2 HB3.out.size) (HS0.out.2 a e).1
   have bs:=B4.out.size;have rz8:=R8.out.lt;have s3:=HB3.out.size;have s5:=T5.out.size
   have xl:∀ a,A1=some a→some a.block∉X5∧a.block<w5.heap.size∧a.block≠w.heap.size+1∧a.block≠w.heap.size+1+1:=fun a e=>by
    subst e;have q:=O5.out.lt a.block rfl
    exact ⟨Z5.out a.block rfl,q.2,by omega,by omega⟩
   have xa:∀ a,A0=some a→some a.block∉X5∧a.block<w5.heap.size∧a.block≠w.heap.size+1∧a.block≠w.heap.size+1+1:=fun a e=>by
    have q:=HS0.out.2 a e
    exact ⟨T5.out.out q.1 (by omega),by omega,by omega,by omega⟩
   have hz7:((((((((w5.setCell ⟨w.heap.size+1,0,none⟩ (.int .i64 n1)).setCell ⟨w.heap.size+1,1,none⟩ (.int .i64 2)).setCell ⟨w.heap.size+1,2,none⟩ (.int .i64 l1)).setCell ⟨w.heap.size+1,3,none⟩ (.slice A0 s1.length c0)).setCell ⟨w.heap.size+1+1,0,none⟩ (.int .i64 n2)).setCell ⟨w.heap.size+1+1,1,none⟩ (.int .i64 2)).setCell ⟨w.heap.size+1+1,2,none⟩ (.int .i64 l2)).setCell ⟨w.heap.size+1+1,3,none⟩ (.slice A1 s2.length c1)).heap.size=w5.heap.size:=by simp
   have tbl:=HT.out.has.lt;have pbl:=HU.out.hb.lt
   refine ⟨rfl,_,_,X5,A0,A1,c0,c1,_,rfl,rfl,rfl,⟨((P5.out.Me o7).Me o8),(((M3.out.turn T5.out).Me tb7).Me tb8),Q7.out,(((U3.out.trans T5.out).Ho ge7).Ho ge8),⟨Bl (Fq h7 _ _ _ _) d78 _ _ _ _,Fq (Bl h8 d78.symm _ _ _ _) _ _ _ _,o7,o8,Nat.lt_succ_self _,(ssa.Ij (fun a e=>(xa a e).2.2.1) _ _ _ _).Ij (fun a e=>(xa a e).2.2.2) _ _ _ _,(ssl.Ij (fun a e=>(xl a e).2.2.1) _ _ _ _).Ij (fun a e=>(xl a e).2.2.2) _ _ _ _,fun a e=>⟨(xa a e).1,by rw [hz7];exact (xa a e).2.1,(xa a e).2.2⟩,fun a e=>⟨(xl a e).1,by rw [hz7];exact (xl a e).2.1,(xl a e).2.2⟩⟩,by rw [hz7];omega,by rw [hz7];omega,by rw [hz7];omega,fun g hg=>by rw [hz7];exact (Q5.out.row.lt g hg).2,fun g hg=>by have:=(HU.out.row.lt g hg).2;omega,fun a e=>by rw [hz7];exact (xa a e).2.1,fun a e=>by rw [hz7];exact (xl a e).2.1,by rw [hz7];omega,Nat.le_refl _⟩⟩
 case rest =>
  obtain ⟨rfl,b7,b8,X1,A1,A2,c1,c2,z,rfl,rfl,hz,jx⟩:=hcut;have J0:=Ac jx;obtain ⟨a0,a1,a2,a3⟩:=jx.jn.z7.cells4;have az:=jx.jn.z7.lt;clear jx;clear R0 R7 R8 HB3 P3 M3 Q3 U3 NX HSD HIV HS0 HP HT HU
  go_wp2_with fail
  have q9:=Has.new wc 116 #[.int .i64 n1,.int .i64 2,.int .i64 l1,.slice A1 s1.length c1];have bq:=Ag wc (.cells #[.int .i64 n1,.int .i64 2,.int .i64 l1,.slice A1 s1.length c1] 116);have J1:=Ac (J0.out.below bq)
  have N1:Hid (some wc.heap.size∉X1):=Ac (fun hm=>by have:=J0.out.pt.lt _ hm;omega)
  have H9:=Ac q9;clear q9 bq J0 a0 a1 a2 a3 az
  generalize wc.alloc (.cells #[.int .i64 n1,.int .i64 2,.int .i64 l1,.slice A1 s1.length c1] 116)=W1 at *
  rw [← hz] at H9 N1 ⊢;clear hz
  refine (Gn J1.out.jn.r1 (by have:=HL.out;omega)).mono ?_
  rintro en w2 ⟨va,rfl,ho2,hb2⟩;obtain ⟨A9,c9,rfl,hc9⟩:=Bd ho2;have J2:=Ac (J1.out.below hb2);have H2:=Ac (H9.out.Aj hb2);have zz2:=J1.out.zz
  have NW3:Hid (Nw (w2.setCell ⟨z,3,none⟩ (.slice A9 s1.length c9)) X1 z z n1 2 l1 s1.length c9 A9 s1):=Ac ⟨Nat.le_refl _,H2.out.set 3 _,N1.out,Bf (own_base ho2 zz2) (fun g hg=>Below.heap_setCell _ _ _ _ (fun e=>by have e2:g=z:=e;have:=(ho2.lt g hg).1;have:=H9.out.lt;omega)),fun g hg=>⟨fun hm=>by have:=J1.out.pt.lt g hm;have:=(ho2.lt g hg).1;omega,fun e=>by have:=(ho2.lt g hg).1;have:=H9.out.lt;omega⟩⟩
  have J3:=Ac (J2.out.set (Nat.le_refl z) N1.out 3 (.slice A9 s1.length c9));obtain ⟨x0,x1,x2,x3⟩:=H2.out.cells4;have xf:=H2.out.frozen;have xz:=H2.out.lt;obtain ⟨a0,a1,a2,a3⟩:=J2.out.jn.z7.cells4;have az:=J2.out.jn.z7.lt;have d7:b7<z:=Nat.lt_trans J2.out.jn.d J2.out.z8;have d8:b8<z:=J2.out.z8;clear ho2 hb2 J1 H9 J2 H2 zz2
  go_wp2_with fail
  generalize w2.setCell ⟨z,3,none⟩ (.slice A9 s1.length c9)=W3 at *
  clear x0 x1 x2 x3 xf xz a0 a1 a2 a3 az
  refine (Jv n1 l1 (.slice A1 s1.length c1) W3).mono ?_
  rintro en w4 ⟨rfl,hb4⟩;have J4:=Ac (J3.out.below hb4);have NW4:=Ac (NW3.out.below hb4);obtain ⟨x0,x1,x2,x3⟩:=NW4.out.hz.cells4;obtain ⟨i0,hi0,hz0,hz1,hz2⟩:=info_parts Np;clear hb4 J3 NW3;have u9:u≤1000:=HUO.out.2.2.2
  have hcu:cells[u]? = some (Af itR):=by
   rw [← HCE.out,List.getElem?_map,List.getElem?_drop,HIT.out.1,List.getElem?_append_right (by rw [HIT.out.2.1];omega),HIT.out.2.1,show 1+u-u=1 by omega];rfl
  obtain ⟨gu,hgu⟩:∃ gu,Au=some ⟨gu,0,none⟩:=by
   rcases J4.out.up.row.2 with ⟨hv,h0⟩ | ⟨g,cap,cur',hv,_⟩
   ·exfalso
    have hl:=J4.out.up.row.1;rw [Dt] at hl;have:=(List.getElem?_eq_some_iff.1 hcu).1;omega
   ·injection hv with h2 _ _;exact ⟨g,h2⟩
  subst hgu
  have hmu:u<mu:=by
   have hl:=J4.out.up.row.1;rw [Dt] at hl;have:=(List.getElem?_eq_some_iff.1 hcu).1;omega
  have hmi:(u:Int)<(mu:Int):=by omega
  have CLU:=Ac (fun W X (h:UpM W X pb o un ul ui mu cu (some ⟨gu,0,none⟩) cur cells)=>(show W.cell? ⟨gu,u,none⟩=some (.string (Af itR)) from by
   have:=h.row.cells (g:=gu) rfl u (.string (Af itR)) (by unfold strs;rw [List.getElem?_map,hcu];rfl)
   rw [addr_add,Nat.zero_add] at this;exact this))
  have wR:itR.k.length≤200∧itR.r.length≤5000:=HIT.out.2.2.1 itR (by rw [HIT.out.1];simp)
  have KY:=Ac (fun W=>Po itR wR.1 wR.2 W)
  have FO:=Ac (fun W=>Jh l2 (by have:=HL.out;omega) W)
  have CE:=Ac (fun W=>Ih ⟨itR.k,Ak l2⟩ wR.1 (by simp [Ak]) W)
  obtain ⟨vc,hvc⟩:∃ v,Af itR=v:=⟨_,rfl⟩;obtain ⟨KR,hKR⟩:∃ v,bsK itR.k=v:=⟨_,rfl⟩;obtain ⟨F,hF⟩:∃ v,bsK (Ak l2)=v:=⟨_,rfl⟩;obtain ⟨CB,hCB⟩:∃ v,Af ⟨itR.k,Ak l2⟩=v:=⟨_,rfl⟩;have hK2:bsK (⟨itR.k,Ak l2⟩:It).k=KR:=hKR;have hF2:bsK (⟨itR.k,Ak l2⟩:It).r=F:=hF;rw [hvc] at CLU KY;rw [hKR] at KY;rw [hF] at FO;rw [hK2,hF2,hCB] at CE;obtain ⟨t1,ht1⟩:∃ t,s1++[CB]=t:=⟨_,rfl⟩
  have E9:=Ac (show t1++s2=bs by rw [← ht1,← hCB,← HBS.out,List.append_assoc];rfl)
  have HT1:=Ac ht1
  have TL:=Ac (show t1.length≤1001 by rw [← ht1,List.length_append];have:=HL.out;simp;omega)
  clear hcu hmu hvc hKR hF hCB hK2 hF2 wR ht1;obtain ⟨x0,x1,x2,x3⟩:=NW4.out.hz.cells4;obtain ⟨p0,p1,p2,p3,p4⟩:=J4.out.up.at5;obtain ⟨a0,a1,a2,a3⟩:=J4.out.jn.z8.cells4;have rc:=CLU.out _ _ J4.out.up;have xz:=NW4.out.hz.lt;have pz:=J4.out.up.hb.lt;have gz4:gu<w4.heap.size:=(J4.out.up.row.lt gu rfl).2;have bz:=J4.out.jn.z8.lt;clear gz ltx d7 d8
  go_wp2_with fail
  have wu:IntKind.i64.wrap (u:Int)=(u:Int):=IntWalk.i64_in _ ⟨by omega,by omega⟩
  refine Eo 20 (Cls (w4)) (EV1 z pb o gu u mu cu b8 l2 s1.length c9 A9 vc KR F CB) (by kernel_rfl) (by kernel_rfl) (by kernel_rfl) (fun _ _ hC hb=>Cls.step hC hb) ?hst (Cls.start _) ?hops ?hend
  case hst=>exact DA0 _ _ _ _ _ _ _ _ _ _ _ _ _ _ _ _
  case hops =>
   intro us wx hus hC
   obtain ⟨u0,u1,u2,u3,u4,u5,u6,u7,u8,u9,u10,u11,u12,u13,u14,u15,u16,u17,u18,u19,rfl⟩:∃ u0 u1 u2 u3 u4 u5 u6 u7 u8 u9 u10 u11 u12 u13 u14 u15 u16 u17 u18 u19,us=[u0,u1,u2,u3,u4,u5,u6,u7,u8,u9,u10,u11,u12,u13,u14,u15,u16,u17,u18,u19]:=by
    match us,hus with
    | [u0,u1,u2,u3,u4,u5,u6,u7,u8,u9,u10,u11,u12,u13,u14,u15,u16,u17,u18,u19],_=>exact ⟨u0,u1,u2,u3,u4,u5,u6,u7,u8,u9,u10,u11,u12,u13,u14,u15,u16,u17,u18,u19,rfl⟩
   clear hus;simp only [Bq,Act.put,List.take_succ_cons,List.take_zero,List.setIfInBounds_toArray,List.set_cons_zero,List.set_cons_succ]
   refine ⟨fun h=>?_,fun h=>?_,fun h=>?_,fun h=>?_,fun h=>?_,fun h=>?_,fun h=>?_,fun h=>?_,fun h=>?_,fun h=>?_,fun h=>?_,fun h=>?_,fun h=>?_,fun h=>?_,fun h=>?_,fun h=>?_,fun h=>?_,fun h=>?_,fun h=>?_,fun h=>?_,trivial⟩
   ·(clear h;refine Ae rfl ?_;go_simp;exact ⟨Below.refl _ _,rfl⟩)
   ·obtain rfl:=h 0 rfl
    (clear h;refine Ae rfl ?_;go_simp;exact ⟨Below.refl _ _,rfl⟩)
   ·obtain rfl:=h 1 rfl
    (clear h;refine Ae rfl ?_;obtain ⟨hc,hf⟩:=hC.facts;go_simp;exact ⟨Below.refl _ _,rfl⟩)
   ·(clear h;refine Ae rfl ?_;go_simp;exact ⟨Below.refl _ _,rfl⟩)
   ·obtain rfl:=h 3 rfl
    (clear h;refine Ae rfl ?_;go_simp;exact ⟨Below.refl _ _,rfl⟩)
   ·obtain rfl:=h 4 rfl
    (clear h;refine Ae rfl ?_;go_simp;exact ⟨Below.refl _ _,rfl⟩)
   ·obtain rfl:=h 5 rfl
    (clear h;refine Ae rfl ?_;go_simp;exact ⟨Below.refl _ _,rfl⟩)
   ·obtain rfl:=h 6 rfl
    (clear h;refine Ae rfl ?_;go_simp;exact ⟨Below.refl _ _,rfl⟩)
   ·obtain rfl:=h 7 rfl
    (clear h;refine Ae rfl ?_;obtain ⟨hc,hf⟩:=hC.facts;go_simp;exact ⟨Below.refl _ _,rfl⟩)
   ·(clear h;refine Ae rfl ?_;go_simp;exact ⟨Below.refl _ _,rfl⟩)
   ·obtain rfl:=h 9 rfl
    (clear h;refine Ae rfl ?_;go_simp;exact ⟨Below.refl _ _,rfl⟩)
   ·obtain rfl:=h 8 rfl
    obtain rfl:=h 10 rfl
    (clear h;refine Ae rfl ?_;go_simp;exact ⟨Below.refl _ _,rfl⟩)
   ·obtain rfl:=h 11 rfl
    (clear h;refine Ae rfl ?_;obtain ⟨hc,hf⟩:=hC.facts;go_simp;exact ⟨Below.refl _ _,rfl⟩)
   ·obtain rfl:=h 12 rfl
    (clear h;refine Ae rfl ?_;go_simp;refine (KY.out _).mono ?_;rintro e w1 ⟨rfl,rfl⟩;exact ⟨_,rfl,Below.refl _ _,rfl⟩)
   ·(clear h;refine Ae rfl ?_;go_simp;exact ⟨Below.refl _ _,rfl⟩)
   ·obtain rfl:=h 14 rfl
    (clear h;refine Ae rfl ?_;go_simp;exact ⟨Below.refl _ _,rfl⟩)
   ·obtain rfl:=h 15 rfl
    (clear h;refine Ae rfl ?_;obtain ⟨hc,hf⟩:=hC.facts;go_simp;exact ⟨Below.refl _ _,rfl⟩)
   ·obtain rfl:=h 16 rfl
    (clear h;refine Ae rfl ?_;go_simp;refine (FO.out _).mono ?_;rintro e w1 ⟨rfl,hb⟩;exact ⟨_,rfl,hb,rfl⟩)
   ·obtain rfl:=h 13 rfl
    obtain rfl:=h 17 rfl
    (clear h;refine Ae rfl ?_;go_simp;refine (CE.out _).mono ?_;rintro e w1 ⟨rfl,hb⟩;exact ⟨_,rfl,hb,rfl⟩)
   ·obtain rfl:=h 18 rfl
    (clear h;refine Ae rfl ?_;go_simp;exact ⟨(Below.refl _ _).alloc (Nat.le_refl _) _,_,rfl,Has.new _ _ _⟩)
  case hend =>
  intro us wx hus hC
  obtain ⟨u0,u1,u2,u3,u4,u5,u6,u7,u8,u9,u10,u11,u12,u13,u14,u15,u16,u17,u18,u19,rfl⟩:∃ u0 u1 u2 u3 u4 u5 u6 u7 u8 u9 u10 u11 u12 u13 u14 u15 u16 u17 u18 u19,us=[u0,u1,u2,u3,u4,u5,u6,u7,u8,u9,u10,u11,u12,u13,u14,u15,u16,u17,u18,u19]:=by
   match us,hus with
   | [u0,u1,u2,u3,u4,u5,u6,u7,u8,u9,u10,u11,u12,u13,u14,u15,u16,u17,u18,u19],_=>exact ⟨u0,u1,u2,u3,u4,u5,u6,u7,u8,u9,u10,u11,u12,u13,u14,u15,u16,u17,u18,u19,rfl⟩
  clear hus;intro hall;obtain ⟨h0,h1,h2,h3,h4,h5,h6,h7,h8,h9,h10,h11,h12,h13,h14,h15,h16,h17,h18,h19,_⟩:=hall;obtain ⟨gc,rfl,hgc⟩:=h19;obtain rfl:=h2;have J8:=Ac (J4.out.below hC.bel);have NW8:=Ac (NW4.out.below hC.bel)
  have NWS:=Ac (fun j u (hj:[Value.string CB][j]? = some u)=>(show wx.cell? ((⟨gc,0,none⟩:Addr).add j)=some u from by
   have hj0:j=0:=by have:=(List.getElem?_eq_some_iff.1 hj).1;simp at this;omega
   subst hj0
   have e:Value.string CB=u:=by simpa using hj
   rw [addr_add,← e];exact hgc.cell 0))
  clear h0 h1 h3 h4 h5 h6 h7 h8 h9 h10 h11 h12 h13 h14 h15 h16 h17 h18 hC hgc J4 NW4 x0 x1 x2 x3 p0 p1 p2 p3 p4 a0 a1 a2 a3 rc wu KY CLU xz pz gz4 bz FO CE;simp only [Bq,Act.put,List.take_succ_cons,List.take_zero,List.drop_succ_cons,List.drop_zero,List.setIfInBounds_toArray,List.set_cons_zero,List.set_cons_succ]
  go_upto_region 11 with (at_builtin;refine wpList_append_lies _ rfl (.tmp 49) (.tmp 66) 44 rfl z 9 i0 _ 1 16 Tryz.underlying44 hi0 hz0 hz1 hz2 rfl (by decide) (.slice A9 s1.length c9) s1.length (strs s1) rfl NW8.out.row _ 1 1 [.string CB] rfl rfl NWS.out (by simp [Value.oneCell']) (by have:=HL.out;omega) (by have:=HL.out;simp only [maxLen];omega) (by have:=HL.out;omega) (by have:=J8.out.zz;omega) _ rfl ?_;intro gg ct w7 hown7 hgrow7 hat7 hlt7;have HO7:=Ac hown7;have HG7:=Ac hgrow7;have HA7:=Ac hat7;have x7:=Ac (NW8.out.FA0 hgrow7);clear hown7 hgrow7 hat7;obtain ⟨x0,x1,x2,x3⟩:=x7.out.cells4;have xf:=x7.out.frozen;have xz:=x7.out.lt)
  have J9:=Ac ((J8.out.grown HG7.out (fun g hg=>⟨(NW8.out.row.lt g hg).1,(NW8.out.rx g hg).1⟩)).set (Nat.le_refl z) N1.out 3 (.slice (some ⟨gg,0,none⟩) t1.length ct))
  have NW9:=Ac (NW8.out.app (xs:=s1) (ys:=[CB]) (fun g hg=>J8.out.pt.lt g hg) (by rw [List.length_append];rfl) HO7.out HG7.out (HA7.out.elim (fun e=>.inl e.symm) fun e=>.inr (congrArg some e)))
  rw [HT1.out] at NW9
  rw [show s1.length+1=t1.length by rw [← HT1.out,List.length_append];rfl]
  clear x7 x0 x1 x2 x3 xf xz HO7 HG7 HA7 J8 NW8
  generalize w7.setCell ⟨z,3,none⟩ (.slice (some ⟨gg,0,none⟩) t1.length ct)=w4 at *
  have J4:=J9;have NW4:=NW9;clear J9 NW9;obtain ⟨x0,x1,x2,x3⟩:=NW4.out.hz.cells4;obtain ⟨a0,a1,a2,a3⟩:=J4.out.jn.z8.cells4
  have G1:Hid (t1.length+s2.length≤maxLen):=Ac (by have:=HL.out;have:=TL.out;unfold maxLen;omega)
  have G2:Hid ((t1.length+s2.length)*16≤140737488355328):=Ac (by have:=HL.out;have:=TL.out;omega)
  have G3:Hid (z≤w4.heap.size):=Ac J4.out.zz
  go_wp2_with (at_builtin;refine Dh _ rfl (.tmp 72) (.tmp 75) 44 44 rfl z 9 i0 _ 1 16 Tryz.underlying44 hi0 hz0 hz1 hz2 rfl (by decide) (.slice (some ⟨gg,0,none⟩) t1.length ct) t1.length (strs t1) rfl NW4.out.row (.slice A2 s2.length c2) s2.length (strs s2) rfl J4.out.jn.r2.src G1.out G2.out G3.out ?_;intro v5 w5 ho5 hg5 _ hat5;obtain ⟨A5,c5,rfl,hc5⟩:=Bd ho5;have HO5:=Ac ho5;have HG5:=Ac hg5;have HA5:=Ac hat5;have x5:=Ac (NW4.out.FA0 hg5);clear ho5 hg5 hat5 x0 x1 x2 x3 a0 a1 a2 a3;obtain ⟨x0,x1,x2,x3⟩:=x5.out.cells4;have xf:=x5.out.frozen;have xz:=x5.out.lt)
  have NW6:=Ac (NW4.out.app (fun g hg=>J4.out.pt.lt g hg) List.length_append.symm HO5.out HG5.out HA5.out)
  have J6:=Ac ((J4.out.grown HG5.out (fun g hg=>⟨(NW4.out.row.lt g hg).1,(NW4.out.rx g hg).1⟩)).set (Nat.le_refl z) N1.out 3 (.slice A5 (t1++s2).length c5))
  have HM:=Ac (show (t1++s2).length≤2001 by rw [List.length_append];have:=HL.out;have:=TL.out;omega)
  have CAP:=Ac (Xb NW6.out.row).2
  rw [show t1.length+s2.length=(t1++s2).length from List.length_append.symm]
  rw [E9.out] at NW6 J6 HM CAP ⊢;clear x5 x0 x1 x2 x3 xf xz HO5 HG5 HA5 J4 NW4 G1 G2 G3 hc5
  generalize w5.setCell ⟨z,3,none⟩ (.slice A5 bs.length c5)=W6 at *
  have US:=Ac (Gh A5 bs.length c5 bs W6 NW6.out.ss (by have:=HM.out;omega) (by have:=HFIT.out;omega))
  obtain ⟨us,hus⟩:∃ us,Be bs=us:=⟨_,rfl⟩;rw [hus] at US
  have u1:(us:Int)≤1012:=by have:=HFIT.out;omega
  refine US.out.mono ?_
  rintro en w6 ⟨rfl,rfl⟩;clear US hus;obtain ⟨a0,a1,a2,a3⟩:=J6.out.jn.z7.cells4
  go_wp2_with fail
  refine (Jv n1 l1 (.slice A1 s1.length c1) W6).mono ?_
  rintro en w7 ⟨rfl,hb7⟩;have J7:=Ac (J6.out.below hb7);have NW7:=Ac (NW6.out.below hb7);clear hb7 J6 NW6 a0 a1 a2 a3;obtain ⟨x0,x1,x2,x3⟩:=NW7.out.hz.cells4;have xf:=NW7.out.hz.frozen;have xz:=NW7.out.hz.lt;obtain ⟨a0,a1,a2,a3⟩:=J7.out.jn.z8.cells4
  go_wp2_with fail
  have J8:=J7;have NW8:=NW7;clear J7 NW7 a0 a1 a2 a3 x0 x1 x2 x3 xf xz
  have PGB:Qq (2,l1,bs):=⟨by show 1≤2;omega,by show 2≤5;omega,by have:=HL.out;show l1≤_;omega,HFIT.out⟩
  refine (Dp (n:=n1) (cp:=c5) (pg:=(2,l1,bs)) J8.out.pt J8.out.tm (by have:=HCK.out;omega) (by have:=HCK.out;omega) HN.out.1.1 HN.out.1.2.1 HN.out.1.2.2 PGB NW8.out.ss (by have:=HM.out;omega)).mono ?_
  rintro en w9 ⟨rfl,X9,hp9,ht9⟩;have J9:=Ac (J8.out.turn ht9 hp9);clear hp9 ht9 J8 NW8 PGB N1;have t0:=J9.out.tm.has.cell 0;have a0:=J9.out.jn.z8.cell 0
  have FR:=Ac (fun W (h:PT W X9 p (S.set n1 (2,l1,bs)) S0 (c+1) (k+1+1))=>Zi (x:=n2) h (by have:=HCK.out;omega) (by have:=HCK.out;omega) HN.out.2.1.1 HN.out.2.1.2.1 HN.out.2.1.2.2)
  go_wp2_with fail
  go_region_held3 (fun w'=>w'.cell? ⟨tb,0,none⟩=some (.pointer (some ⟨p,0,none⟩))∧w'.cell? ⟨b8,0,none⟩=some (.int .i64 n2)) (first | exact (⟨J10.out.tm.has.cell 0,J10.out.jn.z8.cell 0⟩) | go_keep)
   (first
     | (go_at_call 80;refine (FR.out _ (Zp J9.out.pt)).mono ?_;rintro en w10 ⟨rfl,X10,hp10,ht10⟩;have J10:=Ac ((J9.out.below ((Below.refl w9.heap.size w9).drew)).turn ht10 hp10);clear hp10 ht10)
     | (go_at_call 129;refine (Et _).mono ?_;rintro e w1 ⟨rfl,rfl⟩))
  obtain ⟨u0,u1,u2,u3,u4⟩:=J10.out.up.at5;have uf:=J10.out.up.hb.frozen;have uz:=J10.out.up.hb.lt;clear t0 a0 FR J9
  have hcl:u<mu:=by
   have h1:=J10.out.up.row.1;rw [Dt,← HCE.out,List.length_map,List.length_drop,HIT.out.1,List.length_append,HIT.out.2.1] at h1;simp at h1;omega
  have DL:=Ac (Rq (i:=u) (x:=(u:Int)) (y:=(u:Int)+1) J10.out.up.row hcl (by have:=HUO.out;omega) rfl rfl)
  go_wp2_with (go_at_call 56;(with_reducible refine DL.out.mono ?_);rintro en w11 ⟨v11,rfl,ho11,hg11,hat11⟩;obtain ⟨A11,c11,rfl,hc11⟩:=Bd ho11;have HO11:=Ac ho11;have HG11:=Ac hg11;have HA11:=Ac hat11;have nru:=Ac (show Has w11 pb 122 cur from (hg11.block pb J10.out.up.hb.lt (fun e=>(J10.out.up.rx pb e.symm).2 rfl)).trans J10.out.up.hb);clear ho11 hg11 hat11 u0 u1 u2 u3 u4 uf uz;have uf:=nru.out.frozen;have uz:=nru.out.lt;have u3:w11.cell? ⟨pb,o+3,none⟩=some (.slice (some ⟨gu,0,none⟩) mu cu):=(nru.out.cell _).trans J10.out.up.c3)
  have CE:cells.eraseIdx u=(cells.take u++cells.drop (u+1)):=List.eraseIdx_eq_take_drop_succ ..
  have CL:(cells.take u++cells.drop (u+1)).length=mu-1:=by
   have h1:=HO11.out.1;rw [Dt] at h1;omega
  have e11:∀ g,(Value.slice A11 (mu-1) c11).ownBlock=some g→some g∉X10∧g≠pb:=fun g hg=>by
   rcases HA11.out with e | e
   ·exact J10.out.up.rx g (by rw [← e];exact hg)
   ·have e5:g=w10.heap.size:=Option.some.inj (hg.symm.trans e)
    exact ⟨fun hm=>by have:=J10.out.pt.lt g hm;omega,by have:=J10.out.up.hb.lt;omega⟩
  have pt11:PT (w11.setCell ⟨pb,o+3,none⟩ (.slice A11 (mu-1) c11)) X10 p ((S.set n1 (2,l1,bs)).free n2) S0 (c+3) (k+5):=(J10.out.pt.grown HG11.out (fun g hg=>(J10.out.up.rx g hg).1)).set J10.out.up.nb (o+3) (.slice A11 (mu-1) c11)
  have tu11:=Vz (v':=.slice A11 (mu-1) c11) (pb:=pb) J10.out.tu HG11.out (fun g hg=>by
   rcases HA11.out with e | e
   ·exact .inl (by rw [← e];exact hg)
   ·have e5:g=w10.heap.size:=Option.some.inj (hg.symm.trans e)
    exact .inr (by omega)) (o+3) (.slice A11 (mu-1) c11)
  have up11:UpM (w11.setCell ⟨pb,o+3,none⟩ (.slice A11 (mu-1) c11)) X10 pb o un ul ui (mu-1) c11 A11 (cur.setIfInBounds (o+3) (.slice A11 (mu-1) c11)) (cells.take u++cells.drop (u+1)):=by
   exact ⟨nru.out.set _ _,by rw [Array.getElem?_setIfInBounds,if_neg (by omega)];exact J10.out.up.c0,by rw [Array.getElem?_setIfInBounds,if_neg (by omega)];exact J10.out.up.c1,by rw [Array.getElem?_setIfInBounds,if_neg (by omega)];exact J10.out.up.c2,by rw [Array.getElem?_setIfInBounds,if_pos rfl,if_pos HUO.out.2.2.1],by rw [Array.getElem?_setIfInBounds,if_neg (by omega)];exact J10.out.up.c4,J10.out.up.nb,Bf HO11.out (fun g hg=>Below.heap_setCell _ _ _ _ (e11 g hg).2),e11⟩
  have wsz:∀ g,(Value.slice A11 (mu-1) c11).ownBlock=some g→(Value.slice (some ⟨gu,0,none⟩) mu cu).ownBlock=some g∨w.heap.size≤g:=fun g hg=>by
   rcases HA11.out with e | e
   ·exact .inl (by rw [← e];exact hg)
   ·have e5:g=w10.heap.size:=Option.some.inj (hg.symm.trans e)
    exact .inr (by have:=J10.out.tu.size;omega)
  rw [← CL] at pt11 tu11 up11 wsz ⊢
  have FIN:=Ac (show Tq w X p pb o un ul ui (.slice (some ⟨gu,0,none⟩) mu cu) cur ((S.set n1 (2,l1,bs)).free n2) S0 (c+3) (k+5) (cells.eraseIdx u) (.returned (.tuple #[])) (w11.setCell ⟨pb,o+3,none⟩ (.slice A11 (cells.take u++cells.drop (u+1)).length c11)) from by
   rw [CE];exact ⟨rfl,X10,A11,c11,pt11,tu11,up11,wsz⟩)
  refine bodyPost_ret (results_none rfl _ _ _) rfl ?_
  exact FIN.out
end Go.Proofs.YtjihboddejaelaaGreat
