/-
  Package tree: a step of a path in memory, taken out and put back; join for a pending node.
-/
import Derived.Test.YtjihboddejaelaaGreatTs1
import Derived.Test.YtjihboddejaelaaGreatTs17
import Derived.Test.YtjihboddejaelaaGreatTs4
import Derived.Deep.LoopGhost
import Derived.StillTailTactics
import Derived.Tactics2
import Derived.Defers
import Derived.Recover
import Derived.Laws.Pointers
set_option linter.unusedVariables false
set_option linter.unusedSimpArgs false
set_option maxRecDepth 100000
set_option maxHeartbeats 100000000
namespace Go.Proofs.YtjihboddejaelaaGreat
open Go.RowKit Go.BigFrame
structure Ji (W:World) (X:List (Option Nat)) (pb o n kd l i m c:Nat) (A:Option Addr) (cur:Array Value) (cells:List ByteArray):Prop where
 hb:Has W pb 122 cur
 c0:cur[o]? = some (.int .i64 n)
 c1:cur[o+1]? = some (.int .i64 kd)
 c2:cur[o+2]? = some (.int .i64 l)
 c3:cur[o+3]? = some (.slice A m c)
 c4:cur[o+4]? = some (.int .i64 i)
 nb:some pb∉X
 row:W.ownsRow 0 9 1 (.slice A m c) m (strs cells)
 rx:∀ g,(Value.slice A m c).ownBlock=some g→some g∉X∧g≠pb
section
variable {W W':World} {X X':List (Option Nat)} {pb o n l i m c kd:Nat} {A:Option Addr} {cur:Array Value} {cells:List ByteArray}
theorem Ji.up (h:Ji W X pb o n 2 l i m c A cur cells):UpM W X pb o n l i m c A cur cells:=⟨h.hb,h.c0,h.c1,h.c2,h.c3,h.c4,h.nb,h.row,h.rx⟩
theorem UpM.step (h:UpM W X pb o n l i m c A cur cells):Ji W X pb o n 2 l i m c A cur cells:=⟨h.hb,h.c0,h.c1,h.c2,h.c3,h.c4,h.nb,h.row,h.rx⟩
theorem Ji.turn (h:Ji W X pb o n kd l i m c A cur cells) (ht:Turn X X' W W'):Ji W' X' pb o n kd l i m c A cur cells :=
 ⟨ht.has h.hb h.nb,h.c0,h.c1,h.c2,h.c3,h.c4,ht.out h.nb h.hb.lt,Bf h.row fun g hg=>ht.block g (h.row.lt g hg).2 (h.rx g hg).1,fun g hg=>⟨ht.out (h.rx g hg).1 (h.row.lt g hg).2,(h.rx g hg).2⟩⟩
theorem Ji.below (h:Ji W X pb o n kd l i m c A cur cells) (hb:Below W.heap.size W W'):Ji W' X pb o n kd l i m c A cur cells:=h.turn (Turn.below X hb)
theorem Ji.ss (h:Ji W X pb o n kd l i m c A cur cells):SS W A m cells:=SS.Dv h.row
theorem Ji.at5 (h:Ji W X pb o n kd l i m c A cur cells):W.cell? ⟨pb,o,none⟩=some (.int .i64 n)∧W.cell? ⟨pb,o+1,none⟩=some (.int .i64 kd)∧W.cell? ⟨pb,o+2,none⟩=some (.int .i64 l)∧W.cell? ⟨pb,o+3,none⟩=some (.slice A m c)∧W.cell? ⟨pb,o+4,none⟩=some (.int .i64 i) :=
 ⟨(h.hb.cell _).trans h.c0,(h.hb.cell _).trans h.c1,(h.hb.cell _).trans h.c2,(h.hb.cell _).trans h.c3,(h.hb.cell _).trans h.c4⟩
theorem Ji.put (h:Ji W X pb o n kd l i m c A cur cells) {m' c':Nat} {A':Option Addr} {cells':List ByteArray} (hw:Has W' pb 122 cur) (hz:o+3<cur.size) (ho:W'.ownsRow 0 9 1 (.slice A' m' c') m' (strs cells')) (hx:∀ g,(Value.slice A' m' c').ownBlock=some g→some g∉X∧g≠pb) :
 Ji (W'.setCell ⟨pb,o+3,none⟩ (.slice A' m' c')) X pb o n kd l i m' c' A' (cur.setIfInBounds (o+3) (.slice A' m' c')) cells':=by
 refine ⟨hw.set _ _, ?_, ?_, ?_, ?_, ?_,h.nb,Bf ho fun g hg=>Below.heap_setCell _ _ _ _ (hx g hg).2,hx⟩
 ·rw [Array.getElem?_setIfInBounds,if_neg (by omega)];exact h.c0
 ·rw [Array.getElem?_setIfInBounds,if_neg (by omega)];exact h.c1
 ·rw [Array.getElem?_setIfInBounds,if_neg (by omega)];exact h.c2
 ·rw [Array.getElem?_setIfInBounds,if_pos rfl,if_pos hz]
 ·rw [Array.getElem?_setIfInBounds,if_neg (by omega)];exact h.c4
end
theorem QM0:∀ {ss:List Stp} {rs:List Ad} {j:Nat} {s s':Stp} {a a':Ad},ss[j]? = some s→rs[j]? = some a→s'.n=s.n→s'.pg.1=s.pg.1→s'.pg.2.1=s.pg.2.1→s'.i=s.i→JI0 (ss.set j s') (rs.set j a')=(JI0 ss rs).set (5*j+3) (slV s' a')
 | t :: ss,b :: rs,0,s,s',a,a',h1,h2,e1,e2,e3,e4=>by
   have f1:t=s:=by simpa using h1
   subst f1;simp only [List.set_cons_zero,JI0,stC,e1,e2,e3,e4]
   rfl
 | t :: ss,b :: rs,j+1,s,s',a,a',h1,h2,e1,e2,e3,e4=>by
   rw [List.set_cons_succ,List.set_cons_succ,JI0,JI0,QM0 (by simpa using h1) (by simpa using h2) e1 e2 e3 e4]
   rw [List.set_append_right _ _ (by simp [stC];omega)]
   rw [show 5*(j+1)+3-(stC t b).length=5*j+3 by simp [stC];omega]
 | [],_,_,_,_,_,_,h1,_,_,_,_,_=>by simp at h1
 | _ :: _,[],_,_,_,_,_,_,h2,_,_,_,_=>by simp at h2
section
variable {w w':World} {X X':List (Option Nat)} {base:Nat} {v:Value} {ss:List Stp} {rs:List Ad}
theorem Kt.step (h:Kt w X base v ss rs) {j:Nat} {s:Stp} (hs:ss[j]? = some s):∃ pb cap cur a,v = .slice (some ⟨pb,0,none⟩) ss.length cap∧rs[j]? = some a∧base≤pb∧5*ss.length≤cur.size∧Ji w X pb (5*j) s.n s.pg.1 s.pg.2.1 s.i s.pg.2.2.length a.2 a.1 cur s.pg.2.2:=by
 have hj:j<ss.length:=(List.getElem?_eq_some_iff.1 hs).1
 have hjr:j<rs.length:=by rw [h.rows.len];exact hj
 rcases h.own.2 with ⟨_,h0⟩ | ⟨g,cap,cur,hv,hb,hg,hn,hc,hz,ht⟩
 ·omega
 ·have ha:rs[j]? = some rs[j]:=List.getElem?_eq_getElem hjr
  have get:∀ q,q<5→cur[5*j+q]? = (stC s rs[j])[q]? := fun q hq=>by
   rw [← QU0 hs ha q hq,← ht,List.getElem?_take,if_pos (by omega),Array.getElem?_toList]
  have hrow:=h.rows.row j s rs[j] hs ha
  refine ⟨g,cap,cur,rs[j],hv,ha,hb,by rw [hz];have:=Nat.mul_le_mul_right 5 hn;omega,⟨hg,get 0 (by omega),get 1 (by omega),get 2 (by omega),get 3 (by omega),get 4 (by omega),h.out g (by rw [hv];rfl),own_base hrow (Nat.zero_le _),fun q hq=>?_⟩⟩
  have hq2:adB rs[j]=some q:=by rw [← Gf s rs[j]];exact hq
  exact ⟨h.rows.out _ (List.getElem_mem hjr) q hq2,fun e=>h.off _ (List.getElem_mem hjr) q hq2 (by rw [hv,e];rfl)⟩
theorem Kt.back {pb cap j n kd l i c m:Nat} {cur:Array Value} {A A':Option Addr} {c':Nat} {cells cells':List ByteArray} (h:Kt w X base (.slice (some ⟨pb,0,none⟩) ss.length cap) ss rs) (hs:ss[j]? = some ⟨n,(kd,l,cells),i⟩) (ha:rs[j]? = some (A,c)) (hm:cells.length=m)
 (k:Ji w' X' pb (5*j) n kd l i cells'.length c' A' (cur.setIfInBounds (5*j+3) (.slice A' cells'.length c')) cells') (h0:Ji w X pb (5*j) n kd l i m c A cur cells)
 (ht:Turn (some pb :: (Value.slice A m c).ownBlock :: X) (some pb :: (Value.slice A' cells'.length c').ownBlock :: X') w w') (hat:∀ g,(Value.slice A' cells'.length c').ownBlock=some g→(Value.slice A m c).ownBlock=some g∨w.heap.size≤g) (hbs:base≤w.heap.size) :
 Kt w' X' base (.slice (some ⟨pb,0,none⟩) ss.length cap) (ss.set j ⟨n,(kd,l,cells'),i⟩) (rs.set j (A',c')):=by
 subst hm;have hj:j<ss.length:=(List.getElem?_eq_some_iff.1 hs).1
 have hjr:j<rs.length:=by rw [h.rows.len];exact hj
 have adA:adB (A,c)=(Value.slice A cells.length c).ownBlock:=(Gf ⟨n,(kd,l,cells),i⟩ (A,c)).symm;have adA':adB (A',c')=(Value.slice A' cells'.length c').ownBlock:=(Gf ⟨n,(kd,l,cells'),i⟩ (A',c')).symm
 have keepW:∀ q b g,rs[q]? = some b→q≠j→adB b=some g→w'.heap[g]? = w.heap[g]? ∧ some g∉X'∧g<w.heap.size∧some g≠adB (A',c'):=fun q b g hq hqj hb=>by
  have hbm:=List.mem_of_getElem? hq;have l1:=h.rows.lt b hbm g hb
  have n1:g≠pb:=fun e=>h.off b hbm g hb (by rw [e];rfl)
  have n2:(Value.slice A cells.length c).ownBlock≠some g:=fun e=>hqj (h.rows.one q j b (A,c) g hq ha hb (by rw [adA];exact e))
  have hn:some g∉(some pb :: (Value.slice A cells.length c).ownBlock :: X):=fun hm=>by
   rcases List.mem_cons.1 hm with e | hm
   ·exact n1 (Option.some.inj e)
   ·rcases List.mem_cons.1 hm with e | hm
    ·exact n2 e.symm
    ·exact h.rows.out b hbm g hb hm
  refine ⟨ht.block g l1.2 hn,fun hm=>?_,l1.2,fun e=>?_⟩
  ·exact ht.out hn l1.2 (List.mem_cons_of_mem _ (List.mem_cons_of_mem _ hm))
  ·rw [adA'] at e
   rcases hat g e.symm with e2 | e2
   ·exact n2 e2
   ·omega
 have getR:∀ (q:Nat) (t:Stp) (b:Ad),(ss.set j ⟨n,(kd,l,cells'),i⟩)[q]? = some t→(rs.set j (A',c'))[q]? = some b→(q=j∧t=⟨n,(kd,l,cells'),i⟩∧b=(A',c'))∨(q≠j∧ss[q]? = some t∧rs[q]? = some b):=fun q t b h1 h2=>by
  by_cases e:q=j
  ·subst e
   rw [List.getElem?_set_self hj] at h1;rw [List.getElem?_set_self hjr] at h2;exact .inl ⟨rfl,(Option.some.inj h1).symm,(Option.some.inj h2).symm⟩
  ·rw [List.getElem?_set_ne (fun e2=>e e2.symm)] at h1 h2
   exact .inr ⟨e,h1,h2⟩
 have getR1:∀ (q:Nat) (b:Ad),(rs.set j (A',c'))[q]? = some b→(q=j∧b=(A',c'))∨(q≠j∧rs[q]? = some b):=fun q b h2=>by
  by_cases e:q=j
  ·subst e
   rw [List.getElem?_set_self hjr] at h2;exact .inl ⟨rfl,(Option.some.inj h2).symm⟩
  ·rw [List.getElem?_set_ne (fun e2=>e e2.symm)] at h2
   exact .inr ⟨e,h2⟩
 have ownA':∀ g,adB (A',c')=some g→some g∉X'∧g≠pb∧base≤g:=fun g hg=>by
  rw [adA'] at hg
  refine ⟨(k.rx g hg).1,(k.rx g hg).2, ?_⟩
  rcases hat g hg with e | e
  ·exact (h.rows.lt (A,c) (List.mem_of_getElem? ha) g (by rw [adA];exact e)).1
  ·omega
 refine ⟨?_,⟨by simp [h.rows.len],fun q t b h1 h2=>?_,fun b hb g hg=>?_,fun q q' b b' g h1 h2 h3 h4=>?_⟩,fun g hg=>?_,fun b hb g hg e=>?_⟩
 ·rcases h.own.2 with ⟨_,h9⟩ | ⟨g,cap',cur0,hv,hb,hg,hn,hc,hz,htk⟩
  ·omega
  ·have e1:pb=g∧cap=cap':=by
    injection hv with e1 _ e3
    injection e1 with e1
    injection e1 with e1
    exact ⟨e1,e3⟩
   obtain ⟨rfl,rfl⟩:=e1
   have ecur:cur0=cur:=by
    have q1:w.heap[pb]? = _:=hg;have q2:w.heap[pb]? = _:=h0.hb;rw [q1] at q2
    injection q2 with q2
    injection q2
   subst ecur;rw [QM0 (s':=⟨n,(kd,l,cells'),i⟩) (a':=(A',c')) hs ha rfl rfl rfl rfl,List.length_set]
   refine ⟨by rw [List.length_set];exact h.own.1,.inr ⟨pb,cap,_,rfl,hb,k.hb,hn,hc,by simpa using hz, ?_⟩⟩
   rw [Array.toList_setIfInBounds,List.take_set,htk];rfl
 ·rcases getR q t b h1 h2 with ⟨rfl,rfl,rfl⟩ | ⟨hq,h1,h2⟩
  ·exact UR0 k.row fun g hg=>(ownA' g (by rw [adA'];exact hg)).2.2
  ·have hr:=h.rows.row q t b h1 h2
   exact Bf hr fun g hg=>(keepW q b g h2 hq (by rw [← Gf t b];exact hg)).1
 ·obtain ⟨q,hq,rfl⟩:=List.getElem_of_mem hb
  rcases getR1 q _ (List.getElem?_eq_getElem hq) with ⟨_,e⟩ | ⟨hq2,h2⟩
  ·rw [e] at hg;exact (ownA' g hg).1
  ·exact (keepW q _ g h2 hq2 hg).2.1
 ·rcases getR1 q b h1 with ⟨eq1,eb1⟩ | ⟨hq,k1⟩
  ·rcases getR1 q' b' h2 with ⟨eq2,eb2⟩ | ⟨hq',k2⟩
   ·rw [eq1,eq2]
   ·rw [eb1] at h3
    exact absurd h3.symm (keepW q' b' g k2 hq' h4).2.2.2
  ·rcases getR1 q' b' h2 with ⟨eq2,eb2⟩ | ⟨hq',k2⟩
   ·rw [eb2] at h4
    exact absurd h4.symm (keepW q b g k1 hq h3).2.2.2
   ·exact h.rows.one q q' b b' g k1 k2 h3 h4
 ·have e:g=pb:=(Option.some.inj hg).symm
  subst e;exact k.nb
 ·have e1:pb=g:=Option.some.inj e
  obtain ⟨q,hq,rfl⟩:=List.getElem_of_mem hb
  rcases getR1 q _ (List.getElem?_eq_getElem hq) with ⟨_,e2⟩ | ⟨hq2,h2⟩
  ·rw [e2] at hg;exact (ownA' g hg).2.1 e1.symm
  ·exact h.off _ (List.mem_of_getElem? h2) g hg e
end
section
variable {w:World} {X:List (Option Nat)} {tb p root c k pb o mu cu c0:Nat} {Au A0:Option Addr} {cur:Array Value} {S S0:St} {A B:List Nd} {x:Nd} {Ds:List (List Nd)} {u:UpR} {ups:List UpR}
theorem AR1 (pd:Pnd S.G root Ds A x B (u :: ups)) (hlow:Ai (body Ds.isEmpty x.its)<180) :
 (∃ U' l A',u.U=U'++[Dl l]∧A=A'++[l]∧Pair S.G x.n root Ds A' l x B { u with U:=U' } ups∧S.G l.n=pgN Ds.isEmpty (x :: B) l∧Ai (body Ds.isEmpty (l.its++x.its))≤1404) ∨
 (u.U=[]∧∃ V' l B',u.V=Dl l :: V'∧B=l :: B'∧Pair S.G x.n root Ds A x l B' { u with V:=V' } ups∧S.G l.n=pgN Ds.isEmpty B' l∧Ai (body Ds.isEmpty (x.its++l.its))≤1404):=by
 have hne:∀ z∈A++x :: B,Ds.isEmpty=false→z.its≠[]:=fun z hz hD e=>by
  have hD2:Ds≠[]:=by rintro rfl;cases hD
  have:=Jk (A:=[]) (M:=A++x :: B) (B:=[]) (by simpa using pd.dn) hD2 z hz
  rw [e] at this;simp at this
 have hhd:∀ z∈A++x :: B,Ai z.its≤Ai (body Ds.isEmpty z.its)+209:=fun z hz=>by
  cases hD:Ds.isEmpty with
  | true=>exact Nat.le_add_right _ _
  | false =>
    have hD2:Ds≠[]:=by rintro rfl;cases hD
    have h1:=Jk (A:=[]) (M:=A++x :: B) (B:=[]) (by simpa using pd.dn) hD2 z hz
    cases hi:z.its with
    | nil=>exact Nat.zero_le _
    | cons i cs =>
      rw [hi] at h1
      have hk:i.k=z.lo:=by simpa using h1
      have hl:=pd.dn.MU0 z hz
      have hr:i.r.length=4:=by
       obtain ⟨A1,A2,e⟩:=List.append_of_mem hz
       have hd2:Dwn S.G x.n root (A1++z :: A2) Ds:=by rw [← e];exact pd.dn
       exact (hd2.sz (x:=z) (by simp) (i:=i) (by rw [hi];exact List.mem_cons_self)).2.2 hD2
      rw [Df]
      show szI i+Ai cs≤Ai cs+209
      unfold szI;rw [hk,hr];omega
 have fitO:∀ z∈A++x :: B,z.n≠x.n→Ai (body Ds.isEmpty z.its)≤1012:=fun z hz hn=>(pd.dn.fits z hz hn).le
 by_cases hU:u.U=[]
 ·refine .inr ⟨hU, ?_⟩
  have hfit:=(pd.abv.1.fit u.y (List.mem_append_right _ List.mem_cons_self) (fun e=>by
   have hnd:=pd.nd;unfold Eh at hnd
   have q:=(List.nodup_append.1 hnd).2.2 x.n (Bg (by simp) Ds) u.y.n (List.mem_append_left _ (List.mem_map_of_mem (List.mem_append_right _ List.mem_cons_self)))
   exact q e.symm)).two rfl
  rw [pd.abv.1.its,hU] at hfit
  cases hV:u.V with
  | nil=>rw [hV] at hfit;simp at hfit
  | cons it V' =>
    obtain ⟨B',l,rfl,e1,e2⟩:=pd.right hV;subst e1
    have hdn:Dwn S.G x.n root (A++[x,l]++B') Ds:=by have:=pd.dn;simpa using this
    have pr:Pair S.G x.n root Ds A x l B' { u with V:=V' } ups:=⟨hdn,e2,pd.abv.2,by have:=pd.nd;simpa [Eh,Xc,UpR.lv] using this,.inl rfl⟩
    obtain ⟨n1,_,_⟩:=pr.lr
    refine ⟨V',l,B',rfl,rfl,pr, ?_, ?_⟩
    ·have hd2:Dwn S.G x.n root ((A++[x])++l :: B') Ds:=by have:=pd.dn;simpa using this
     exact hd2.EF1 (fun e=>n1 e.symm)
    ·rw [HE0 (hne x (by simp)),Dw]
     have a1:=hhd l (by simp)
     have a2:=fitO l (by simp) (fun e=>n1 e.symm)
     omega
 ·left
  obtain ⟨U',it,hU2⟩:∃ U' it,u.U=U'++[it]:=by
   rcases List.eq_nil_or_concat u.U with h | ⟨U',it,h⟩
   ·exact absurd h hU
   ·exact ⟨U',it,by simpa using h⟩
  obtain ⟨A',l,rfl,e1,e2⟩:=pd.left hU2;subst e1
  have hdn:Dwn S.G x.n root (A'++[l,x]++B) Ds:=by have:=pd.dn;simpa using this
  have pr:Pair S.G x.n root Ds A' l x B { u with U:=U' } ups:=⟨hdn,e2,pd.abv.2,by have:=pd.nd;simpa [Eh,Xc,UpR.lv] using this,.inr rfl⟩
  obtain ⟨n1,_,_⟩:=pr.lr
  refine ⟨U',l,A',hU2,rfl,pr, ?_, ?_⟩
  ·have hd2:Dwn S.G x.n root (A'++l :: (x :: B)) Ds:=by have:=pd.dn;simpa using this
   exact hd2.EF1 n1
  ·rw [HE0 (hne l (by simp)),Dw]
   have a1:=hhd x (by simp)
   have a2:=fitO l (by simp) n1
   omega
theorem QA0 {S:St} (hok:EM0 S) (pd:Pnd S.G root Ds A x B ups) (own:∀ q∈Eh (A++x :: B) Ds ups,0<q∧q<S.q∧q∉S.fr):(pgN Ds.isEmpty B x).2.1≤2147483647∧((pgN Ds.isEmpty B x).1=1∨(pgN Ds.isEmpty B x).1=2):=by
 have hfew:=hok.few
 cases Ds with
 | nil =>
   refine ⟨?_,.inl rfl⟩
   show hdN B 0≤_
   cases hB:B with
   | nil=>exact Nat.zero_le _
   | cons b B' =>
     have:=(own b.n (List.mem_append_left _ (Bg (by rw [hB];simp) []))).2.1
     show b.n≤_;omega
 | cons D t =>
   refine ⟨?_,.inr rfl⟩
   show Dz (x.its.headD ⟨[],[]⟩).r≤_
   cases hi:x.its with
   | nil=>show Dz []≤_;decide
   | cons i cs =>
     have h1:i∈(A++x :: B).flatMap (·.its):=List.mem_flatMap.2 ⟨x,by simp,by rw [hi];exact List.mem_cons_self⟩
     rw [pd.dn.1.its] at h1;obtain ⟨d,hd,e⟩:=List.mem_map.1 h1;have:=(own d.n (List.mem_append_left _ (List.mem_append_right _ (Bg hd t)))).2.1
     show Dz i.r≤_
     rw [← e]
     show Dz (Ak d.n)≤_
     rw [Du (by omega)];omega
theorem AI1 {S:St} (pd:Pnd S.G root Ds A x B ups) (hu:180≤Ai (body Ds.isEmpty x.its)) (hu2:Ai (body Ds.isEmpty x.its)≤1012) :
 ∃ x' Ds',Tre (S.set x.n (pgN Ds.isEmpty B x)).G root x' Ds'∧Ig [x'] Ds'=Ig (A++x :: B) Ds∧Mv S (S.set x.n (pgN Ds.isEmpty B x)) (Eh (A++x :: B) Ds ups) (Ei [x'] Ds'):=by
 have hfit:TH0 Ds.isEmpty root x:=by
  refine ⟨hu2,fun _=>hu,fun hb=>?_⟩
  rw [hb] at hu
  have h1:x.its.drop 1≠[]:=fun e=>by
   have h2:Ai (x.its.drop 1)=0:=by rw [e];rfl
   have h3:180≤Ai (x.its.drop 1):=hu;omega
  have h2:=List.length_pos_iff.2 h1;rw [List.length_drop] at h2;omega
 obtain ⟨z1,z2⟩:=QW0 pd.dn pd.abv pd.nd hfit
 exact ⟨_,_,WQ0 z1 z2,BB0 z2,(Mv.set (List.mem_append_left _ (Bg (by simp) Ds)) _).perm (List.Perm.refl _) (DP0 z2)⟩
theorem KA0 (h:PT w X p S S0 c k) (ht:TM w X tb p root) (hc:c+10≤60000) (hk:k≤800000000) (pd:Pnd S.G root Ds A x B (u :: ups)) (hlow:Ai (body Ds.isEmpty x.its)<180)
 (own:∀ q∈Eh (A++x :: B) Ds (u :: ups),0<q∧q<S.q∧q∉S.fr)
 (hu:UpM w X pb o u.y.n (Dz (u.y.its.headD ⟨[],[]⟩).r) u.U.length mu cu Au cur ((u.y.its.drop 1).map Af)) (ho:o≤1000) (ho2:o+3<cur.size)
 (hs0:SS w A0 (pgN Ds.isEmpty B x).2.2.length (pgN Ds.isEmpty B x).2.2) (hx0:∀ a,A0=some a→some a.block∉X∧a.block<w.heap.size) :
 Calls Tryz.prog 145 #[.pointer (some ⟨tb,0,none⟩),.pointer (some ⟨pb,o,none⟩),.agg #[.int .i64 x.n,.int .i64 (pgN Ds.isEmpty B x).1,.int .i64 (pgN Ds.isEmpty B x).2.1,.slice A0 (pgN Ds.isEmpty B x).2.2.length c0]] w
  (ZS0 w X p pb o u ups u.U.length (.slice Au mu cu) cur S S0 root (c+3) (k+5) Ds.length (Eh (A++x :: B) Ds (u :: ups)) (Ig (A++x :: B) Ds)):=by
 have huf:u.y.n≠x.n:=fun e=>by
  have hnd:=pd.nd;unfold Eh at hnd
  have q:=(List.nodup_append.1 hnd).2.2 x.n (Bg (by simp) Ds) u.y.n (List.mem_append_left _ (List.mem_map_of_mem (List.mem_append_right _ List.mem_cons_self)))
  exact q e.symm
 rcases AR1 pd hlow with ⟨U',l,A',e1,rfl,pr,e2,e3⟩ | ⟨hU,V',l,B',e1,rfl,pr,e2,e3⟩
 ·have eL:A'++[l]++x :: B=A'++[l,x]++B:=by simp
  rw [eL] at own ⊢
  exact Vk (u:={ u with U:=U' }) h ht hc hk pr own e3 hu ho ho2 hs0 hx0 (.inl ⟨by rw [e1,List.length_append];rfl,rfl,rfl,e2⟩) huf
 ·have eL:A++x :: l :: B'=A++[x,l]++B':=by simp
  rw [eL] at own ⊢
  exact Vk (u:={ u with V:=V' }) h ht hc hk pr own e3 hu ho ho2 hs0 hx0 (.inr ⟨by rw [hU];rfl,by show u.U.length=0;rw [hU];rfl,rfl,rfl,e2⟩) huf
end
theorem KE0 {U V:List It} {a:It} (e:It):(((U++[a]++V).drop 1).map Af).take U.length++Af e :: (((U++[a]++V).drop 1).map Af).drop U.length=((U++[a,e]++V).drop 1).map Af:=by
 cases U with
 | nil=>rfl
 | cons i U =>
   simp only [List.cons_append,List.drop_succ_cons,List.drop_zero,List.length_cons,List.append_assoc,List.map_append,List.map_cons]
   have e1:∀ (l:List ByteArray) (x z:ByteArray) (m:List ByteArray) (n:Nat),n=l.length→(l++x :: m).take (n+1)++z :: (l++x :: m).drop (n+1)=l++x :: z :: m:=by
    intro l x z m n hn;subst hn
    have h1:l.length+1-l.length=1:=by omega
    rw [List.take_append,List.drop_append,List.take_of_length_le (by omega),List.drop_of_length_le (by omega),h1]
    simp
   exact e1 (U.map Af) (Af a) (Af e) (V.map Af) U.length (List.length_map _).symm
theorem KW0 {S:St} {root:Nat} {A B:List Nd} {x:Nd} {Ds:List (List Nd)} {ups:List UpR} (hok:EM0 S) (pd:Pnd S.G root Ds A x B ups) (own:∀ q∈Eh (A++x :: B) Ds ups,0<q∧q<S.q∧q∉S.fr) (hu:1012<Ai (body Ds.isEmpty x.its)) :
 ∃ X1 y Y kd l l2 cl cr,x.its.take (spl Ds.isEmpty x.its)=X1∧x.its.drop (spl Ds.isEmpty x.its)=y :: Y∧pgN Ds.isEmpty B x=(kd,l,(body Ds.isEmpty x.its).map Af)∧(kd=1∨kd=2) ∧
   (∀ tv W A0 c0,SS W A0 ((body Ds.isEmpty x.its).map Af).length ((body Ds.isEmpty x.its).map Af)→((body Ds.isEmpty x.its).map Af).length≤c0→c0≤9223372036854775807→Calls Tryz.prog 143 #[tv,.agg #[.int .i64 x.n,.int .i64 kd,.int .i64 l,.slice A0 ((body Ds.isEmpty x.its).map Af).length c0]] W (Vy W x.n kd l l2 (bsK y.k) cl cr)) ∧
   (∀ m,(kd=1→pgN Ds.isEmpty (⟨m,y.k,y :: Y⟩ :: B) ⟨x.n,x.lo,X1⟩=(1,m,cl))∧(kd=2→pgN Ds.isEmpty (⟨m,y.k,y :: Y⟩ :: B) ⟨x.n,x.lo,X1⟩=(2,l,cl))∧pgN Ds.isEmpty B ⟨m,y.k,y :: Y⟩=(kd,l2,cr))∧Be cl≤1012∧Be cr≤1012∧y.k.length≤200∧l≤2147483647∧l2≤2147483647:=by
 obtain ⟨sz1,sz2⟩:=BY1 pd;have hw:=IM0 sz1;have hle:=pd.le;have hfew:=hok.few;have hlk:=QA0 hok pd own
 cases Ds with
 | nil =>
   have hle2:Ai x.its≤1256:=hle;have hu2:1012<Ai x.its:=hu
   obtain ⟨X1,y,Y,eX,eY,hh,h0⟩:=FD0 (b:=true) hu2 (by show Ai x.its≤1404;omega) (fun i hi=>(sz1 i hi).1)
   have hits:x.its=X1++y :: Y:=by rw [← eX,← eY,List.take_append_drop]
   refine ⟨X1,y,Y,1,hdN B 0,hdN B 0,X1.map Af,(y :: Y).map Af,eX,eY,rfl,.inl rfl,fun tv W A0 c0 hs hc1 hc2=>?_,fun m=>⟨fun _=>rfl,fun h=>by omega,rfl⟩,by rw [Eg];exact hh.l2,by rw [Eg];exact hh.r2,(sz1 y (by rw [hits];simp)).2,hlk.1,hlk.1⟩
   have e:body ([]:List (List Nd)).isEmpty x.its=x.its:=rfl;rw [e] at hs hc1 ⊢
   exact Px tv hs hw hu2 (by omega) (fun i hi=>(sz1 i hi).1) hc1 hc2 eX eY
 | cons D t =>
   have hle2:Ai (x.its.drop 1)≤1256:=hle;have hu2:1012<Ai (x.its.drop 1):=hu
   obtain ⟨X1,y,Y,eX,eY,hh,h0⟩:=FD0 (b:=false) hu2 (by show Ai (x.its.drop 1)≤1404;omega) (fun i hi=>(sz1 i (List.mem_of_mem_drop hi)).1)
   have hits:x.its=X1++y :: Y:=by rw [← eX,← eY,List.take_append_drop]
   have hX:X1.headD ⟨[],[]⟩=x.its.headD ⟨[],[]⟩:=by
    rw [hits]
    cases X1 with
    | nil=>exact absurd rfl hh.ne.1
    | cons a b=>rfl
   have hyn:Dz y.r≤2147483647:=by
    have h1:y∈(A++x :: B).flatMap (·.its):=List.mem_flatMap.2 ⟨x,by simp,by rw [hits];simp⟩
    rw [pd.dn.1.its] at h1;obtain ⟨d,hd,e⟩:=List.mem_map.1 h1;have:=(own d.n (List.mem_append_left _ (List.mem_append_right _ (Bg hd t)))).2.1;rw [← e]
    show Dz (Ak d.n)≤_
    rw [Du (by omega)];omega
   refine ⟨X1,y,Y,2,Dz (x.its.headD ⟨[],[]⟩).r,Dz y.r,(X1.drop 1).map Af,Y.map Af,eX,eY,rfl,.inr rfl,fun tv W A0 c0 hs hc1 hc2=>?_,fun m=>⟨fun h=>by omega,fun _=>?_,rfl⟩,by rw [Eg];exact hh.l2,by rw [Eg];exact hh.r2,(sz1 y (by rw [hits];simp)).2,hlk.1,hyn⟩
   ·have e:body (D :: t).isEmpty x.its=x.its.drop 1:=rfl
    rw [e] at hs hc1 ⊢
    exact Oa tv hs hw hu2 (by omega) (fun i hi=>(sz1 i (List.mem_of_mem_drop hi)).1) hc1 hc2 (sz2 (by simp)) eX eY
   ·show Yr ⟨x.n,x.lo,X1⟩=_
    unfold Yr
    show (2,Dz (X1.headD ⟨[],[]⟩).r,(X1.drop 1).map Af)=_
    rw [hX]
def FB1 (pb o ui b9 mN n c lo:Nat) (A:Option Addr) (K F CB:ByteArray):Nat→Value→World→Prop
 | 0,v,_=>v = .pointer (some ⟨pb,o,none⟩)
 | 1,v,_=>v = .pointer (some ⟨pb,o,none⟩)
 | 2,v,_=>v = .pointer (some ⟨pb,o,none⟩)
 | 3,v,_=>v = .pointer (some ⟨pb,o,none⟩)
 | 4,v,_=>v = .pointer (some ⟨pb,o+1,none⟩)
 | 5,v,_=>v = .pointer (some ⟨pb,o+3,none⟩)
 | 6,v,_=>v = .slice A n c
 | 7,v,_=>v = .pointer (some ⟨pb,o,none⟩)
 | 8,v,_=>v = .pointer (some ⟨pb,o,none⟩)
 | 9,v,_=>v = .pointer (some ⟨pb,o+4,none⟩)
 | 10,v,_=>v = .int .i64 ui
 | 11,v,_=>v = .string K
 | 12,v,_=>v = .pointer (some ⟨b9,0,none⟩)
 | 13,v,_=>v = .int .i64 mN
 | 14,v,_=>v = .string F
 | 15,v,_=>v = .string CB
 | 16,v,w=>∃ g,v = .slice (some ⟨g,0,none⟩) 1 1∧Has w g 9 #[.string CB]∧lo≤g
 | _,_,_=>True
theorem DS0 (pb o ui b9 mN n c lo:Nat) (A:Option Addr) (K F CB:ByteArray):∀ j v (w w':World),Below w.heap.size w w'→FB1 pb o ui b9 mN n c lo A K F CB j v w→FB1 pb o ui b9 mN n c lo A K F CB j v w'
 | 0,_,_,_,_,h=>h
 | 1,_,_,_,_,h=>h
 | 2,_,_,_,_,h=>h
 | 3,_,_,_,_,h=>h
 | 4,_,_,_,_,h=>h
 | 5,_,_,_,_,h=>h
 | 6,_,_,_,_,h=>h
 | 7,_,_,_,_,h=>h
 | 8,_,_,_,_,h=>h
 | 9,_,_,_,_,h=>h
 | 10,_,_,_,_,h=>h
 | 11,_,_,_,_,h=>h
 | 12,_,_,_,_,h=>h
 | 13,_,_,_,_,h=>h
 | 14,_,_,_,_,h=>h
 | 15,_,_,_,_,h=>h
 | 16,_,_,_,hb,⟨g,e,h,l⟩=>⟨g,e,h.Aj hb,l⟩
 | _+17,_,_,_,_,_=>trivial
end Go.Proofs.YtjihboddejaelaaGreat
namespace Go.Proofs.YtjihboddejaelaaGreat
open Go.RowKit
attribute [local go_sem] Fv Cj
section
variable {P:Program} {md:Region.Mode} {Q:Exit→Act→World→Prop}
def AM0 (md:Region.Mode) (m:Nat) (l:List Oper):Bool :=
 UT0 md 0 l && (List.range l.length).all fun k=>decide (k<m) || (List.range k).all fun j=>decide (j=0) || waits md l k j
theorem Nu {md:Region.Mode} {m:Nat} {l:List Oper} (h:AM0 md m l=true) {i:Nat} {o:Oper} (hi:l[i]? = some o) {e:Edge} (he:e∈o.after) (hb:Region.binds md e=true):e.on<i:=by
 simp only [AM0,Bool.and_eq_true] at h;have:=Yz h.1 i o hi e he hb;omega
theorem DV0 {md:Region.Mode} {m:Nat} {l:List Oper} (h:AM0 md m l=true) {k j:Nat} (hk:k<l.length) (hm:m≤k) (hj:j<k) (hj0:j≠0):waits md l k j=true:=by
 simp only [AM0,Bool.and_eq_true,List.all_eq_true,List.mem_range,Bool.or_eq_true,decide_eq_true_eq] at h
 rcases h.2 k hk with h1 | h1
 ·omega
 ·exact (h1 j hj).resolve_left hj0
theorem LE0 {md:Region.Mode} {m:Nat} {l:List Oper} (hB:AM0 md m l=true):∀ {k j:Nat},k<j→j<l.length→waits md l k j=false:=by
 intro k
 induction k using Nat.strongRecOn with
 | _ k ih =>
   intro j hkj hj
   cases hw:waits md l k j with
   | false=>rfl
   | true =>
     exfalso
     have hk:l[k]? = some l[k]:=by simp
     obtain ⟨e,he,hb,h⟩:=Ns hk hw;have hlt:=Nu hB hk he hb
     rcases h with h | ⟨_,h⟩
     ·omega
     ·rw [ih e.on hlt (by omega) hj] at h;cases h
theorem Wx {ops:Array Oper} {m:Nat} (hB:AM0 md m ops.toList=true) (hm0:0<m):∀ (rest:List Oper) (k:Nat) (listed:Array Bool) (b:Act) (w:World),m≤k→listed.size=ops.size→(∀ j,j<k→listed.getD j false=true) →
 (∀ j,k≤j→j<ops.size→listed.getD j true=false)→rest=ops.toList.drop k→wpList P ops Q rest b w→wpAny P md ops Q rest.length listed b w
 | [],k,listed,b,w,_,hs,ht,_,hr,h=>by
   refine ⟨?_,h⟩
   have hk:ops.size≤k:=by
    have:=congrArg List.length hr;simp at this;omega
   apply List.eq_nil_iff_forall_not_mem.2
   intro j hj;obtain ⟨h0,o,ho,_⟩:=mem_ready.1 hj;have hlt:j<ops.size:=(Array.getElem?_eq_some_iff.1 ho).1
   have:=ht j (by omega)
   rw [getD_lt (by omega)] at h0 this
   rw [h0] at this;cases this
 | o :: rest,k,listed,b,w,hm,hs,ht,hf,hr,h=>by
   have hlt:k<ops.size:=by
    have:=congrArg List.length hr;simp at this;omega
   have hok:ops[k]? = some o:=by
    have:(ops.toList.drop k)[0]? = some o:=by rw [← hr];rfl
    simpa using this
   have hrest:rest=ops.toList.drop (k+1):=by
    have:=congrArg List.tail hr
    simpa using this
   have hkr:k∈Region.ready md ops listed:=mem_ready.2 ⟨hf k (Nat.le_refl _) hlt,o,hok,fun e he hb=>ht _ (by
    exact Nu hB (i:=k) (o:=o) (by simpa using hok) he hb)⟩
   refine ⟨(fun h0=>by rw [h0] at hkr;cases hkr),fun i hi=>?_⟩
   obtain ⟨hi0,oi,hoi,hall⟩:=mem_ready.1 hi;have hilt:i<ops.size:=(Array.getElem?_eq_some_iff.1 hoi).1
   have hik:¬ i<k:=fun hh=>by
    have:=ht i hh
    rw [getD_lt (by omega)] at hi0 this
    rw [hi0] at this;cases this
   have hki:¬ k<i:=fun hh=>by
    obtain ⟨e,he,hb,hon⟩:=Ns (by simpa using hoi) (DV0 hB (k:=i) (j:=k) (by simpa using hilt) (by omega) hh (by omega))
    have h1:=hall e he hb
    have hel:e.on<ops.size:=by have:=Nu hB (i:=i) (o:=oi) (by simpa using hoi) he hb;omega
    have hek:k≤e.on:=by
     rcases hon with h2 | ⟨_,h2⟩
     ·omega
     ·rcases Nat.lt_or_ge e.on k with h3 | h3
      ·exact absurd h2 (by rw [LE0 hB h3 hlt];simp)
      ·exact h3
    have h2:=hf e.on hek hel
    rw [getD_lt (by omega)] at h1 h2
    rw [h1] at h2;cases h2
   obtain rfl:i=k:=by omega
   have h':wpOp P ops Q i (wpList P ops Q rest) b w:=by
    unfold wpOp;rw [hok];exact h
   refine wpOp_mono (fun a' w' hh=>?_) h'
   refine Wx hB hm0 rest (i+1) _ a' w' (by omega) (by simpa using hs) (fun j hj=>?_) (fun j hj hjs=>?_) hrest hh
   ·rw [Ep]
    split
    ·rfl
    ·rename_i hn
     exact ht j (by
      rcases Nat.lt_or_ge j i with h1 | h1
      ·exact h1
      ·exact absurd ⟨by omega,by omega⟩ hn)
   ·rw [Ep]
    rw [if_neg (by omega)]
    exact hf j (by omega) hjs
theorem RN0 {l1 l2:List Oper} {a:Act} {C:World→Prop} {PP:Nat→Value→World→Prop} {own:Nat→Value→Option Nat} (hown:∀ j u w,PP j u w→∀ b,own j u=some b→b<w.heap.size) (hund:∀ j,own j undef=none) (hd:Kr l1=true) (hB:AM0 md l1.length (l1++l2)=true) (hm0:0<l1.length)
 (hC:∀ w w',C w→Below w.heap.size w w'→C w') (hst:∀ j u w w',Below w.heap.size w w'→PP j u w→PP j u w')
 (hops:∀ (us:List Value) (w:World),us.length=l1.length→C w→∀ i o,l1[i]? = some o→(∀ j,(o.after.toList.any fun e=>Region.binds md e && e.on == j)=true→PP j (us.getD j undef) w) →
   Fv P (l1++l2).toArray PP own i o (Bq l1 us a) w)
 (hend:∀ (us:List Value) (w:World),us.length=l1.length→C w→(∀ j,j<l1.length→PP j (us.getD j undef) w)→(∀ i j b,i<l1.length→j<l1.length→i≠j→own i (us.getD i undef)=some b→own j (us.getD j undef)≠some b)→wpList P (l1++l2).toArray Q l2 (Bq l1 us a) w) :
 ∀ (fuel:Nat) (listed:Array Bool) (us:List Value) (w:World),listed.getD 0 true=true→listed.size=l1.length+l2.length→listed.toList.count false=fuel→us.length=l1.length→C w →
   (∀ j,j<l1.length→listed.getD j true=true→PP j (us.getD j undef) w)→(∀ j,l1.length≤j→j<l1.length+l2.length→listed.getD j true=false) →
   (∀ q o,(l1++l2)[q]? = some o→listed.getD q true=true→∀ e∈o.after,Region.binds md e=true→listed.getD e.on false=true) →
   (∀ i j b,i<l1.length→j<l1.length→i≠j→listed.getD i true=true→listed.getD j true=true→own i (us.getD i undef)=some b→own j (us.getD j undef)≠some b) →
   wpAny P md (l1++l2).toArray Q fuel listed (Bq l1 us a) w:=by
 intro fuel
 induction fuel with
 | zero =>
   intro listed us w h0l hs hc hl hCw hP hno hdc hdis
   have hall:∀ j,j<listed.size→listed.getD j true=true:=fun j hj=>by
    have hn:false∉listed.toList:=fun hm=>by have:=List.count_pos_iff.2 hm;omega
    rw [getD_lt hj]
    cases hv:listed[j] with
    | true=>rfl
    | false=>exact absurd (by rw [← hv];simp) hn
   have h2:l2=[]:=by
    cases l2 with
    | nil=>rfl
    | cons x l =>
      have:=hno l1.length (Nat.le_refl _) (by simp)
      rw [hall _ (by rw [hs];simp)] at this
      cases this
   subst h2
   have he:=hend us w hl hCw (fun j hj=>hP j hj (hall j (by rw [hs];simp;omega))) (fun i j b hi hj hne=>hdis i j b hi hj hne (hall i (by rw [hs];simp;omega)) (hall j (by rw [hs];simp;omega)))
   have:=Wx (P:=P) (Q:=Q) (md:=md) (ops:=(l1++[]).toArray) (m:=l1.length) (by simpa using hB) hm0 [] l1.length listed (Bq l1 us a) w (Nat.le_refl _) (by simpa using hs)
    (fun j hj=>by have:=hall j (by rw [hs];simp;omega);rw [getD_lt (by rw [hs];simp;omega)] at this ⊢;exact this)
    (fun j hj hjs=>by simp at hjs;omega) (by simp) he
   exact this
 | succ fuel ih =>
   intro listed us w h0l hs hc hl hCw hP hno hdc hdis
   by_cases hall:∀ j,j<l1.length→listed.getD j true=true
   ·have he:=hend us w hl hCw (fun j hj=>hP j hj (hall j hj)) (fun i j b hi hj hne=>hdis i j b hi hj hne (hall i hi) (hall j hj))
    have hlen:l2.length=fuel+1:=by
     rw [← hc]
     have e:listed.toList=List.replicate l1.length true++List.replicate l2.length false:=by
      apply List.ext_getElem
      ·simp [hs]
      ·intro j h1 h2
       have hj:j<listed.size:=by simpa using h1
       rw [List.getElem_append]
       split
       ·rename_i hlt
        have:=hall j (by simpa using hlt)
        rw [getD_lt hj] at this
        simpa using this
       ·rename_i hge
        have:=hno j (by simpa using hge) (by rw [← hs];exact hj)
        rw [getD_lt hj] at this
        simpa using this
     rw [e,List.count_append,List.count_replicate,List.count_replicate];simp
    have:=Wx (P:=P) (Q:=Q) (md:=md) (ops:=(l1++l2).toArray) (m:=l1.length) (by simpa using hB) hm0 l2 l1.length listed (Bq l1 us a) w (Nat.le_refl _) (by simpa using hs)
     (fun j hj=>by have:=hall j hj;rw [getD_lt (by rw [hs];omega)] at this ⊢;exact this)
     (fun j hj hjs=>hno j hj (by simpa using hjs)) (by simp) he
    rw [hlen] at this;exact this
   ·have hex:∃ j,j<l1.length∧listed.getD j true=false:=by
     refine Classical.byContradiction fun hne=>hall fun j hj=>?_
     cases hv:listed.getD j true with
     | true=>rfl
     | false=>exact absurd ⟨j,hj,hv⟩ hne
    have hmin:∃ j,j<l1.length∧listed.getD j true=false∧∀ q,q<j→listed.getD q true=true:=by
     obtain ⟨j,hj,hf⟩:=hex
     induction j using Nat.strongRecOn with
     | _ j ihj =>
       by_cases h:∀ q,q<j→listed.getD q true=true
       ·exact ⟨j,hj,hf,h⟩
       ·have:∃ q,q<j∧listed.getD q true=false:=by
         refine Classical.byContradiction fun hne=>h fun q hq=>?_
         cases hv:listed.getD q true with
         | true=>rfl
         | false=>exact absurd ⟨q,hq,hv⟩ hne
        obtain ⟨q,hq,hqf⟩:=this
        exact ihj q hq (by omega) hqf
    obtain ⟨k,hk,hkf,hkmin⟩:=hmin
    have hgetk:(l1++l2).toArray[k]? = some l1[k]:=by simp [List.getElem?_append_left hk,hk]
    have hkr:k∈Region.ready md (l1++l2).toArray listed:=mem_ready.2 ⟨hkf,l1[k],hgetk,fun e he hb=>by
     have hlt:=Nu hB (i:=k) (o:=l1[k]) (by simpa using hgetk) he hb
     have:=hkmin e.on (by omega)
     rw [getD_lt (by rw [hs];omega)] at this ⊢
     exact this⟩
    refine ⟨(fun h0=>by rw [h0] at hkr;cases hkr),fun i hi=>?_⟩
    obtain ⟨hi0,oi,hoi,hafter⟩:=mem_ready.1 hi
    have him:i<l1.length:=by
     rcases Nat.lt_or_ge i l1.length with h | h
     ·exact h
     ·exfalso
      have hil:i<(l1++l2).length:=(List.getElem?_eq_some_iff.1 (show (l1++l2)[i]? = some oi by simpa using hoi)).1
      have key:∀ q,q<(l1++l2).length→waits md (l1++l2) q k=true→(listed.getD q true=true∨q=i)→False:=by
       intro q
       induction q using Nat.strongRecOn with
       | _ q ihq =>
         intro hq hw hor
         have hqo:(l1++l2)[q]? = some (l1++l2)[q]:=by simp
         obtain ⟨e,he,hb,hon⟩:=Ns hqo hw;have hlt:=Nu hB hqo he hb
         have hle:listed.getD e.on false=true:=by
          rcases hor with h1 | h1
          ·exact hdc q _ hqo h1 e he hb
          ·subst h1
           have:(l1++l2)[q]=oi:=by
            have h3:(l1++l2)[q]? = some oi:=by simpa using hoi
            rw [hqo] at h3;exact Option.some.inj h3
           exact hafter e (by rw [← this];exact he) hb
         have hes:e.on<listed.size:=by rw [hs,← List.length_append];omega
         rcases hon with h2 | ⟨_,h2⟩
         ·rw [h2] at hle
          rw [getD_lt (by rw [hs];omega)] at hle hkf
          rw [hle] at hkf;cases hkf
         ·refine ihq e.on hlt (by omega) h2 (.inl ?_)
          rw [getD_lt hes] at hle ⊢;exact hle
      exact key i hil (DV0 hB hil h (by omega) (fun e=>by subst e;rw [h0l] at hkf;cases hkf)) (.inr rfl)
    have hoi1:l1[i]? = some oi:=by simpa [List.getElem?_append_left him] using hoi
    have hgood:=hops us w hl hCw i oi hoi1 (fun j hj=>by
     obtain ⟨q,hq,hh⟩:=List.any_eq_true.1 hj;simp only [Bool.and_eq_true,beq_iff_eq] at hh
     have hlt:=Nu hB (i:=i) (o:=oi) (by simpa using hoi) (by simpa using hq) hh.1
     have:=hafter _ (by simpa using hq) hh.1
     rw [hh.2] at this hlt
     refine hP j (by omega) ?_
     rw [getD_lt (by rw [hs];omega)] at this ⊢
     exact this)
    have hcount:(listed.setIfInBounds i true).toList.count false=fuel:=by
     have hil:i<listed.toList.length:=by simp [hs];omega
     have hv:listed.toList[i]=false:=by
      rw [getD_lt (by simpa using hil)] at hi0
      simpa using hi0
     rw [Array.toList_setIfInBounds,List.count_set hil,hv,hc];simp
    have next:∀ v w',Below w.heap.size w w'→PP i v w'→(∀ b,own i v=some b→w.heap.size≤b)→wpAny P md (l1++l2).toArray Q fuel (listed.setIfInBounds i true) ((Bq l1 us a).put oi.dst v) w':=fun v w' hb hp hfr=>by
     rw [EH0 v l1 us i oi a hd hl hoi1]
     refine ih _ _ w' (by rw [Ep];split;rfl;exact h0l) (by simpa using hs) hcount (by simpa using hl) (hC w w' hCw hb) (fun j hj hjl=>?_) (fun j hj hjs=>?_) (fun q o hqo hql e he heb=>?_) (fun x y b hx hy hne hxl hyl hox hoy=>?_)
     ·rw [Ep] at hjl
      by_cases hij:i=j
      ·subst hij
       have:(us.set i v).getD i undef=v:=by simp [List.getD,hl,him]
       rw [this];exact hp
      ·rw [if_neg (by omega)] at hjl
       have:(us.set i v).getD j undef=us.getD j undef:=by simp [List.getD,List.getElem?_set_ne hij]
       rw [this];exact hst j _ w w' hb (hP j hj hjl)
     ·rw [Ep,if_neg (by omega)]
      exact hno j hj hjs
     ·have hlist:listed.getD e.on false=true:=by
       rw [Ep] at hql
       by_cases hiq:i=q
       ·subst hiq
        have h3:(l1++l2)[i]? = some oi:=by simpa using hoi
        rw [h3] at hqo
        cases hqo
        exact hafter e he heb
       ·rw [if_neg (fun hh=>hiq hh.1)] at hql
        exact hdc q o hqo hql e he heb
      rw [Ep]
      split
      ·rfl
      ·exact hlist
     ·rw [Ep] at hxl hyl
      have atI:(us.set i v).getD i undef=v:=by simp [List.getD,hl,him]
      have atO:∀ j,i≠j→(us.set i v).getD j undef=us.getD j undef:=fun j hij=>by simp [List.getD,List.getElem?_set_ne hij]
      by_cases hix:i=x
      ·subst hix
       rw [atI] at hox;rw [atO y hne] at hoy
       rw [if_neg (fun hh=>hne hh.1)] at hyl
       have h1:=hfr b hox;have h2:=hown y _ w (hP y hy hyl) b hoy;omega
      ·rw [atO x hix] at hox
       rw [if_neg (fun hh=>hix hh.1)] at hxl
       by_cases hiy:i=y
       ·subst hiy
        rw [atI] at hoy;have h1:=hfr b hoy;have h2:=hown x _ w (hP x hx hxl) b hox;omega
       ·rw [atO y hiy] at hoy
        rw [if_neg (fun hh=>hiy hh.1)] at hyl
        exact hdis x y b hx hy hne hxl hyl hox hoy
    unfold wpOp;simp only [hoi];unfold Fv at hgood
    by_cases hw:Region.wanted oi (yielded (l1++l2).toArray (Bq l1 us a).tmps)=true
    ·rw [if_pos hw] at hgood ⊢
     refine .inl (Oper.wp_mono (fun a' w' hh=>?_) (FV0 hgood))
     obtain ⟨v,rfl,hb,hp,hfr⟩:=hh;exact next v w' hb hp hfr
    ·rw [if_neg hw] at hgood ⊢
     exact next undef w (Below.refl _ _) hgood (fun b hb=>by rw [hund] at hb;cases hb)
theorem Ib {id:Nat} {a:Act} {w:World} {o0:Oper} {r:List Oper} (m:Nat) (v0:Value) (C:World→Prop) (PP:Nat→Value→World→Prop) (hm:P.follows .mixedOrders=true) (hd:Kr (o0 :: r.take m)=true) (hB:AM0 .any (o0 :: r.take m).length (o0 :: r)=true)
 (hsel:Region.noSelect (o0 :: r).toArray=true) (hfree:Region.free .any (o0 :: r).toArray (Array.replicate (o0 :: r).length false) 0=true) (hrd:(Region.ready .any (o0 :: r).toArray (Array.replicate (o0 :: r).length false)).contains 0=true)
 (hC:∀ w w',C w→Below w.heap.size w w'→C w') (hst:∀ j u w w',Below w.heap.size w w'→PP j u w→PP j u w') (h0:C { w with drawn:=w.drawn+1 })
 (hQ:∀ c a' w,Q (.panic c) (a'.put o0.dst v0) w→Q (.panic c) a' w) (hy:Yields P (o0 :: r).toArray o0 v0 a) (hp0:∀ w,PP 0 v0 w)
 (hops:∀ (us:List Value) (w:World),us.length=(o0 :: r.take m).length→C w→We P (o0 :: r).toArray PP VJ0 (Bq (o0 :: r.take m) us a) us w 0 (o0 :: r.take m))
 (hend:∀ (us:List Value) (w:World),us.length=(o0 :: r.take m).length→C w→Rj PP w 0 us→wpList P (o0 :: r).toArray Q (r.drop m) (Bq (o0 :: r.take m) us a) w) :
 (Code.region id (o0 :: r).toArray true).wp P Q a w:=by
 have hl:o0 :: r.take m++r.drop m=o0 :: r:=by rw [List.cons_append,List.take_append_drop]
 have fA:∀ (us:List Value),us.length=(o0 :: r.take m).length→Bq (o0 :: r.take m) us (a.put o0.dst v0)=Bq (o0 :: r.take m) us a:=fun us hus=>by
  cases us with
  | nil=>simp at hus
  | cons u us=>show Bq (r.take m) us ((a.put o0.dst v0).put o0.dst u)=Bq (r.take m) us (a.put o0.dst u);rw [PC0]
 obtain ⟨us,hus,hf⟩:=Zt (r.take m) (a.put o0.dst v0)
 have hf2:Bq (o0 :: r.take m) (v0 :: us) (a.put o0.dst v0)=a.put o0.dst v0:=by
  show Bq (r.take m) us ((a.put o0.dst v0).put o0.dst v0)=_
  rw [PC0,hf]
 refine wp_region_any hm ?_
 have hsz:(o0 :: r).toArray.size=r.length+1:=by simp
 rw [hsz]
 refine wpAny_take (i:=0) (oi:=o0) (v:=v0) (by simp) hsel (by have:=hfree;simpa using this) (by have:=hrd;simpa using this) hQ hy ?_
 have hno0:∀ e∈o0.after,Region.binds .any e=true→False:=fun e he hb=>by
  have h1:0∈Region.ready .any (o0 :: r).toArray (Array.replicate (o0 :: r).length false):=by simpa using hrd
  obtain ⟨_,o,ho,hall⟩:=mem_ready.1 h1
  have:o=o0:=by simpa using ho.symm
  subst this;have h2:=hall e he hb
  rcases Nat.lt_or_ge e.on (o :: r).length with h3 | h3
  ·rw [getD_lt (by simpa using h3)] at h2
   simp at h2
  ·rw [Array.getD_eq_getD_getElem?,Array.getElem?_eq_none (by simpa using h3)] at h2
   cases h2
 have:=RN0 (P:=P) (Q:=Q) (md:=.any) (l1:=o0 :: r.take m) (l2:=r.drop m) (a:=a.put o0.dst v0) (C:=C) (PP:=PP) (own:=VJ0) (fun _ _ _ _ b hb=>by cases hb) (fun _=>rfl) hd (by rw [hl];exact hB) (by simp) hC hst (by rw [hl];exact fun us w h1 h2 i o h3 h4=>by have:=(hops us w h1 h2).at i o h3 h4;rw [fA us h1];rwa [Nat.zero_add] at this)
  (by rw [hl];exact fun us w h1 h2 h3 h4=>by rw [fA us h1];exact hend us w h1 h2 (Rj.of fun j hj=>by rw [Nat.zero_add];exact h3 j (by rw [← h1];exact hj))) r.length ((Array.replicate (r.length+1) false).setIfInBounds 0 true) (v0 :: us)
  { w with drawn:=w.drawn+1 } (by rw [Ep];simp) (by rw [← List.length_append,hl];simp) (by
    rw [Array.toList_setIfInBounds,Array.toList_replicate,List.replicate_succ,List.set_cons_zero,List.count_cons];simp) (by simp [hus]) h0 (fun j hj hjl=>by
    cases j with
    | zero=>exact hp0 _
    | succ j =>
      have hlt:j+1<r.length+1:=by simp at hj;omega
      rw [Ep,if_neg (by omega),getD_lt (by simpa using hlt)] at hjl
      simp at hjl) (fun j hj1 hj=>by
    have h1:j<r.length+1:=by rw [← List.length_append,hl] at hj;simpa using hj
    have h2:j≠0:=by intro e;subst e;simp at hj1
    rw [Ep,if_neg (by omega),getD_lt (by simpa using h1)]
    simp) (fun q o hqo hql=>by
    have h1:q<r.length+1:=by rw [hl] at hqo;simpa using (List.getElem?_eq_some_iff.1 hqo).1
    cases q with
    | zero =>
      have:o=o0:=by rw [hl] at hqo;simpa using hqo.symm
      subst this
      exact fun e he hb=>(hno0 e he hb).elim
    | succ q =>
      rw [Ep,if_neg (by omega),getD_lt (by simpa using h1)] at hql
      simp at hql) (fun _ _ _ _ _ _ _ _ hb=>by cases hb)
 rw [hf2,hl] at this;exact this
end
end Go.Proofs.YtjihboddejaelaaGreat
namespace Go.Proofs.YtjihboddejaelaaGreat
open Go.RowKit Go.BigFrame
attribute [local go_sem] Fv Cj Bq Act.put
theorem DY0 {α:Type} {ss l:List α} {s:α} {n:Nat} (h:ss.take (n+1)=l++[s]) (hl:l.length=n):ss[n]? = some s∧ss.take n=l:=by
 constructor
 ·have h1:(ss.take (n+1))[n]? = some s:=by rw [h,List.getElem?_append_right (by omega),hl,Nat.sub_self];rfl
  rw [List.getElem?_take,if_pos (by omega)] at h1;exact h1
 ·have h1:(ss.take (n+1)).take n=l:=by rw [h,← hl,List.take_left]
  rw [List.take_take,Nat.min_eq_left (by omega)] at h1;exact h1
theorem Qj (b:Bool) (B:List Nd) (x:Nd):(pgN b B x).2.2=(body b x.its).map Af:=by cases b <;> rfl
def FY1 (w0:World) (X0:List (Option Nat)) (p tb root c k D N pb cap:Nat) (S S0:St) (own0:List Nat) (L:List It) (g:Nat) (v4:Value) (wr:World):Prop :=
 ∃ (Sr:St) (Ds:List (List Nd)) (A:List Nd) (x:Nd) (B:List Nd) (ups:List UpR) (ss:List Stp) (rs:List Ad) (X':List (Option Nat)) (i n:Nat),ups.length=n∧g=n+1∧v4 = .int .i64 n∧Pnd Sr.G root Ds A x B ups∧Ig (A++x :: B) Ds=L∧Mv S Sr own0 (Eh (A++x :: B) Ds ups) ∧
   PT wr X' p Sr S0 (c+6*Ds.length) (k+10*Ds.length)∧TM wr X' tb p root∧Turn X0 X' w0 wr∧Kt wr X' w0.heap.size (.slice (some ⟨pb,0,none⟩) N cap) ss rs∧ss.take (n+1)=Gw ups++[⟨x.n,pgN Ds.isEmpty B x,i⟩]∧Ds.length+n=D∧Sr.q≤S.q+Ds.length∧ss.length=N
theorem Rk {w0 w:World} {X0 X:List (Option Nat)} {tb p root c k D N pb cap i:Nat} {S S0:St} {A B:List Nd} {x:Nd} {ups:List UpR} {ss:List Stp} {rs:List Ad} (h:PT w X p S S0 c k) (ht:TM w X tb p root) (hc:c+300≤60000) (hk:k≤700000000) (hq:S.q≤58000) (hD:D≤20)
 (pd:Pnd S.G root [] A x B ups) (hn:(Eh (A++x :: B) [] ups++S.fr).Nodup) (hr:∀ q∈Eh (A++x :: B) [] ups++S.fr,0<q∧q<S.q) (tu:Turn X0 X w0 w) (pa:Kt w X w0.heap.size (.slice (some ⟨pb,0,none⟩) N cap) ss rs) (hss:ss.take (ups.length+1)=Gw ups++[⟨x.n,lfP B x,i⟩]) (hlen:ups.length=D) (hsl:ss.length=N) (hN:N=D+1) (htb:tb<w0.heap.size) :
 Calls Tryz.prog 54 #[.pointer (some ⟨tb,0,none⟩),.slice (some ⟨pb,0,none⟩) N cap] w (BK0 X0 w0 p S S0 root (c+6*D+7) (k+10*D+11) (D+2) (Eh (A++x :: B) [] ups) (Ig (A++x :: B) [])):=by
 have START:=Ac (show ∀ v4:Value,v4 = .int .i64 (D:Nat)→FY1 w0 X0 p tb root c k D N pb cap S S0 (Eh (A++x :: B) [] ups) (Ig (A++x :: B) []) (D+1) v4 w from fun v4 h4 =>
  ⟨S,[],A,x,B,ups,ss,rs,X,i,D,hlen,rfl,h4,pd,rfl,Mv.refl _ _,h,ht,tu,pa,by rw [← hlen];exact hss,by simp,Nat.le_refl _,hsl⟩)
 obtain ⟨own0,ho0⟩:∃ l,Eh (A++x :: B) [] ups=l:=⟨_,rfl⟩;obtain ⟨L,hL⟩:∃ l,Ig (A++x :: B) []=l:=⟨_,rfl⟩;obtain ⟨n0,hn0⟩:∃ n,D+1=n:=⟨_,rfl⟩;rw [ho0,hL,hn0] at START;rw [ho0] at hn hr;rw [ho0,hL];have HN:=Ac (And.intro hn hr);have HCK:=Ac (And.intro hc (And.intro hk (And.intro hq (And.intro hD (And.intro htb h.ok.pos)))));have hD2:D≤20:=hD;have HNN:=Ac hN
 have hN1:1≤N:=by omega
 have hN2:N≤21:=by omega
 clear h ht hc hk hq pd hn hr tu pa hss hlen hsl htb ho0 hL hn0 hD hN
 go_enter Tryz.func54,Tryz.ntmps54
 go_wp2_with fail
 go_loopg [4] n0 (fun g v4 wr=>FY1 w0 X0 p tb root c k D N pb cap S S0 own0 L g v4 wr)
 case atStart=>exact START.out _ (by have:=HNN.out;congr 1;omega)
 case round =>
  obtain ⟨Sr,Ds,A,x,B,ups,ss,rs,X',i,n,qn,q1,q2,q3,q4,q5,q6,q7,q8,q9,q10,q11,q12,q13⟩:=hrel;clear START;have hok:=q6.ok;obtain ⟨nd2,rg2⟩:=q5.nd HN.out.1 HN.out.2;have hpos:0<S.q:=HCK.out.2.2.2.2.2
  have own:∀ q∈Eh (A++x :: B) Ds ups,0<q∧q<Sr.q∧q∉Sr.fr:=fun q hq=>by
   have r9:=rg2 hpos q (List.mem_append_left _ hq)
   exact ⟨r9.1,r9.2,fun hf=>(List.nodup_append.1 nd2).2.2 q hq q hf rfl⟩
  cases ups with
  | nil =>
    obtain rfl:0=n:=qn;obtain ⟨s1,s2⟩:=DY0 q10 rfl;obtain ⟨pb',cap',cur,a,e1,ha,hbp,hcz,st⟩:=q9.step s1
    have e2:pb=pb'∧cap=cap':=by
     injection e1 with e1 e4 e3
     injection e1 with e1
     injection e1 with e1
     exact ⟨e1,e3⟩
    obtain ⟨rfl,rfl⟩:=e2;obtain rfl:=q2
    have SR:=Ac (fun W (h:PT W X' p Sr S0 (c+6*Ds.length) (k+10*Ds.length)) (ht:TM W X' tb p root) (hs:SS W a.1 (pgN Ds.isEmpty B x).2.2.length (pgN Ds.isEmpty B x).2.2)=>EF0 h ht (by have:=HCK.out;simp at q11;omega) (by have:=HCK.out;simp at q11;omega) (by have:=HCK.out;simp at q11;omega) q3 own hs (Xb st.row).2.1 (Xb st.row).2.2)
    obtain ⟨pg,hpg⟩:∃ pg,pgN Ds.isEmpty B x=pg:=⟨_,rfl⟩;rw [hpg] at SR st;obtain ⟨g0,g1,g2,g3,g4⟩:=st.at5;simp only [Nat.mul_zero,Nat.zero_add] at g0 g1 g2 g3 g4;have gz:=st.hb.lt
    have n1:(0:Int)<(N:Int):=by have:=HNN.out;omega
    have n2:pg.2.2.length≤1000:=by
     have h5:=Fz (body Ds.isEmpty x.its);have h6:=q3.le;rw [← hpg,Qj,List.length_map];omega
    have n3:Be pg.2.2≤8388608:=by
     have h6:=q3.le;rw [← hpg,Qj,Eg];omega
    have US:=Ac (fun W (h:SS W a.1 pg.2.2.length pg.2.2)=>Gh a.1 pg.2.2.length a.2 pg.2.2 W h (by omega) n3)
    have ST:=Ac st;have Q5:=Ac q5;have Q6:=Ac q6;have Q7:=Ac q7;have Q8:=Ac q8;have Q4:=Ac q4;have B0:=Ac (Ag wr (.cells #[.int .i64 x.n,.int .i64 pg.1,.int .i64 pg.2.1,.slice a.1 pg.2.2.length a.2] 116))
    have LD:=Ac (show Ds.length≤D from by simp at q11;omega)
    have QL:=Ac q12;clear q1 q3 q4 q5 q6 q7 q8 q9 q10 q11 q12 q13 hok nd2 rg2 own s1 s2 ha e1 hbp hcz st hpg n2 n3
    go_wp2_with (first
     | (go_at_call 141;refine (US.out _ (ST.out.ss.keep B0.out)).mono ?_;rintro e w1 ⟨rfl,rfl⟩)
     | (go_at_call 142;(with_reducible refine (SR.out _ (Q6.out.below B0.out) (Q7.out.below B0.out) (ST.out.ss.keep B0.out)).mono ?_);rintro en w2 ⟨rfl,S2,x2,Ds2,X2,hp2,ht2,tr2,l2,mv2,lq2⟩;have FIN:=Ac (show BK0 X0 w0 p S S0 root (c+6*D+7) (k+10*D+11) (D+2) own0 L (.returned (.tuple #[])) w2 from ⟨rfl,S2,x2,Ds2,X2,hp2.more (by have:=LD.out;omega) (by have:=LD.out;omega),(Q8.out.next B0.out).trans ht2,tr2,l2.trans Q4.out,Q5.out.trans mv2,by have:=LD.out;have:=QL.out;omega⟩);clear hp2 ht2 tr2 l2 mv2 lq2))
    refine bodyPost_ret (results_none rfl _ _ _) rfl ?_
    exact FIN.out
  | cons u r =>
    obtain ⟨m,rfl⟩:∃ m,n=m+1:=⟨r.length,by rw [← qn];rfl⟩
    have hrm:r.length=m:=by simpa using qn
    obtain ⟨s1,s2⟩:=DY0 q10 (by rw [Ce];exact qn)
    rw [FE0] at s2
    obtain ⟨t1,t2⟩:=DY0 s2 (by rw [Ce];exact hrm)
    obtain rfl:u4 = .int .i64 ((m:Int)+1):=by rw [q2];rfl
    obtain ⟨pb',cap',cur,a,e1,ha,hbp,hcz,st⟩:=q9.step s1
    have e2:pb=pb'∧cap=cap':=by
     injection e1 with e1 e4 e3
     injection e1 with e1
     injection e1 with e1
     exact ⟨e1,e3⟩
    obtain ⟨rfl,rfl⟩:=e2
    have hnD:m+1≤D:=by omega
    rw [Nat.mul_comm 5 (m+1)] at st;obtain ⟨pg,hpg⟩:∃ pg,pgN Ds.isEmpty B x=pg:=⟨_,rfl⟩;rw [hpg] at st
    have n2:pg.2.2.length≤1000:=by
     have h5:=Fz (body Ds.isEmpty x.its);have h6:=q3.le;rw [← hpg,Qj,List.length_map];omega
    have n3:Be pg.2.2≤8388608:=by
     have h6:=q3.le;rw [← hpg,Qj,Eg];omega
    have US:=Ac (fun W (h:SS W a.1 pg.2.2.length pg.2.2)=>Gh a.1 pg.2.2.length a.2 pg.2.2 W h (by omega) n3)
    obtain ⟨g0,g1,g2,g3,g4⟩:=st.at5;have gz:=st.hb.lt
    have i1:(m:Int)+1<(N:Int):=by have:=HNN.out;omega
    have ST:=Ac st;have Q3:=Ac q3;have Q4:=Ac q4;have Q5:=Ac q5;have Q6:=Ac q6;have Q7:=Ac q7;have Q8:=Ac q8;have Q9:=Ac q9;have Q10:=Ac q10;have Q12:=Ac q12;have Q13:=Ac q13;have OWN:=Ac own;have S1:=Ac s1;have T1:=Ac t1;have T2:=Ac t2;have HA:=Ac ha;have HPG:=Ac hpg;have HNR:=Ac hrm
    have LD:=Ac (show Ds.length+m+1=D from by omega)
    have Q1:=Ac q1;have PL:=Ac (QA0 hok q3 own)
    have HTU:=Ac (show Be pg.2.2=Ai (body Ds.isEmpty x.its) from by rw [← hpg,Qj,Eg])
    have HCZ:=Ac hcz;have NL2:=Ac n2;clear qn hrm q1 q3 q4 q5 q6 q7 q8 q9 q10 q11 q12 q13 hok nd2 rg2 own s1 s2 t1 t2 ha e1 hbp hcz st hpg n2 n3
    have hm20:m≤20:=by omega
    clear hnD
    go_wp2_with fail
    have Z1:=Ac (Has.new wr 116 #[.int .i64 x.n,.int .i64 pg.1,.int .i64 pg.2.1,.slice a.1 pg.2.2.length a.2]);have B0:=Ag wr (.cells #[.int .i64 x.n,.int .i64 pg.1,.int .i64 pg.2.1,.slice a.1 pg.2.2.length a.2] 116);have P1:=Ac (Q6.out.below B0);have M1:=Ac (Q7.out.below B0);have U1:=Ac (Q8.out.next B0);have PA1:=Ac (Q9.out.below B0);have ST1:=Ac (ST.out.below B0)
    have ZX:=Ac (show some wr.heap.size∉X' from fun hm=>by have:=Q6.out.lt _ hm;omega)
    have ZW:=Ac (show w0.heap.size≤wr.heap.size from Q8.out.size)
    have HBL:=Ac (show ∀ g,some g∈X'→g<wr.heap.size from Q6.out.lt)
    have PAB:=Ac (show pb<wr.heap.size∧∀ b∈rs,∀ g,adB b=some g→g<wr.heap.size from ⟨(Q9.out.own.lt pb rfl).2,fun b hb g hg=>(Q9.out.rows.lt b hb g hg).2⟩)
    clear Q6 Q7 Q8 Q9 ST B0 g0 g1 g2 g3 g4 gz
    generalize wr.alloc (.cells #[.int .i64 x.n,.int .i64 pg.1,.int .i64 pg.2.1,.slice a.1 pg.2.2.length a.2] 116)=W1 at *
    generalize hb5:wr.heap.size=b5 at *
    clear hb5;obtain ⟨us,hus⟩:∃ us,Be pg.2.2=us:=⟨_,rfl⟩;rw [hus] at US HTU
    refine (US.out _ ST1.out.ss).mono ?_
    rintro en w1 ⟨rfl,rfl⟩;clear US hus
    have e0:(((m:Int)+1) == 0)=false:=by rw [beq_eq_false_iff_ne];omega
    obtain ⟨z0,z1,z2,z3⟩:=Z1.out.cells4;have zl:=Z1.out.lt
    by_cases h1:1012<us
    ·have u1:(1012:Int)<(us:Int):=by omega
     obtain ⟨X1,y,Y,kd,l,l2,cl,cr,eX,eY,epg,hkd,SPC,epN,zcl,zcr,hyk,hl,hl2⟩:=KW0 P1.out.ok Q3.out OWN.out (by have:=HTU.out;omega)
     have hpg3:pg=(kd,l,(body Ds.isEmpty x.its).map Af):=HPG.out.symm.trans epg;obtain ⟨cs,hcs⟩:∃ cs,(body Ds.isEmpty x.its).map Af=cs:=⟨_,rfl⟩;rw [hcs] at SPC hpg3;subst hpg3;dsimp only at ST1 NL2 HTU Z1 z0 z1 z2 z3 ⊢;have hcap:=Xb ST1.out.row
     have SP:=Ac (fun W (h:SS W a.1 cs.length cs)=>SPC (.pointer (some ⟨tb,0,none⟩)) W a.1 a.2 h hcap.2.1 hcap.2.2)
     have ESX:=Ac (And.intro eX (And.intro eY epN));have ESZ:=Ac (And.intro zcl (And.intro zcr (And.intro hyk (And.intro hl hl2))))
     have HU1:=Ac (show 1012<Ai (body Ds.isEmpty x.its) from by have:=HTU.out;omega)
     have AL:=Ac (P1.out.ok.Ah)
     have hoth:=fun q hq=>P1.out.ok.other (OWN.out q hq).2.1 (OWN.out q hq).2.2
     have OTH:=Ac hoth
     have XN:=Ac (And.intro (OWN.out x.n (List.mem_append_left _ (Bg (by simp) Ds))) (hoth x.n (List.mem_append_left _ (Bg (by simp) Ds))))
     have OK1:=Ac (St.Nc P1.out.ok (by have:=HCK.out;have:=Q12.out;have:=LD.out;omega))
     have PD1:=Ac (Q3.out.congr (G':=Sr.alloc.G) (fun q hq=>P1.out.ok.BT0 (by have:=(OWN.out q hq).1;omega) (hoth q hq).1))
     obtain ⟨K,hK⟩:∃ K,bsK y.k=K:=⟨_,rfl⟩;rw [hK] at SP;have HK:=Ac hK;have OKF:=Ac P1.out.ok;obtain ⟨mN,hmN⟩:∃ n,Sr.Ah=n:=⟨_,rfl⟩;rw [hmN] at AL OTH XN hoth;have HMN:=Ac hmN;clear eX eY epg SPC epN zcl zcr hyk hl hl2 hcs hcap hoth hK hmN HTU
     rcases hkd with rfl | rfl
     ·have EP1:=Ac (fun m=>(ESX.out.2.2 m).1 rfl)
      have EP2:=Ac (fun m=>(ESX.out.2.2 m).2.2)
      go_wp2_with fail
      refine (SP.out _ ST1.out.ss).mono ?_
      rintro en w2 ⟨va,vb,rfl,hoa,hob,hab,hb2⟩;obtain ⟨Aa,ca,rfl,hca⟩:=Bd hoa;obtain ⟨Ab,cb,rfl,hcb⟩:=Bd hob;have OA9:=Ac hoa;have OB9:=Ac hob;have AB9:=Ac hab;have HB9:=Ac hb2;clear hoa hob hab hb2
      go_wp2_with fail
      have hoa:=OA9.out;have hob:=OB9.out;have hab:=AB9.out;have hb2:=HB9.out;clear OA9 OB9 AB9 HB9;have bz2:=hb2.size;have HX:=Z1.out.lt;have HL9:=Has.new w2 116 #[.int .i64 x.n,.int .i64 1,.int .i64 l,.slice Aa cl.length ca];have HR9:=Has.new (w2.alloc (.cells #[.int .i64 x.n,.int .i64 1,.int .i64 l,.slice Aa cl.length ca] 116)) 116 #[.int .i64 x.n,.int .i64 1,.int .i64 l2,.slice Ab cr.length cb]
      rw [World.size_alloc] at HR9
      have bq:=((Below.refl w2.heap.size w2).alloc (Nat.le_refl _) (.cells #[.int .i64 x.n,.int .i64 1,.int .i64 l,.slice Aa cl.length ca] 116)).alloc (by simp) (.cells #[.int .i64 x.n,.int .i64 1,.int .i64 l2,.slice Ab cr.length cb] 116)
      have lt1:=P1.out.lt;have P3:=Ac ((P1.out.below hb2).below bq);have M3:=Ac ((M1.out.below hb2).below bq);have U3:=Ac ((U1.out.next hb2).next bq);have PA3:=Ac ((PA1.out.below hb2).below bq)
      have NL3:=Ac (Nw.mk2 (bs:=cl) (X:=X') (z:=0) (Nat.zero_le _) (fun hm=>by have:=lt1 _ hm;omega) (HL9.alloc (.cells #[.int .i64 x.n,.int .i64 1,.int .i64 l2,.slice Ab cr.length cb] 116)) ((hoa.alloc _).alloc _) (Nat.zero_le _) lt1 (fun g hg=>by have:=(hoa.lt g hg).2;omega))
      have NR3:=Ac (Nw.mk2 (bs:=cr) (X:=X') (z:=0) (b:=w2.heap.size+1) (Nat.zero_le _) (fun hm=>by have:=lt1 _ hm;omega) HR9 ((hob.alloc _).alloc _) (Nat.zero_le _) lt1 (fun g hg=>by have:=(hob.lt g hg).2;omega))
      have LRX:=Ac (show (∀ g,(Value.slice Aa cl.length ca).ownBlock=some g→g≠w2.heap.size+1)∧(∀ g,(Value.slice Ab cr.length cb).ownBlock=some g→g≠w2.heap.size) from ⟨fun g hg=>by have:=(hoa.lt g hg).2;omega,fun g hg=>by have:=(hob.lt g hg).2;omega⟩)
      have D7:b5<w2.heap.size:=by omega
      clear HL9 HR9 bq hoa hob hab hb2 bz2 hca hcb lt1 P1 M1 U1 PA1 ST1 Z1 z0 z1 z2 z3 zl SP HX
      generalize (w2.alloc (.cells #[.int .i64 x.n,.int .i64 1,.int .i64 l,.slice Aa cl.length ca] 116)).alloc (.cells #[.int .i64 x.n,.int .i64 1,.int .i64 l2,.slice Ab cr.length cb] 116)=W3 at *
      generalize hb7:w2.heap.size=b7 at *
      clear hb7
      have PAN:=Ac (show (∀ g,b5<g→(Value.slice (some ⟨pb,0,none⟩) N cap).ownBlock≠some g∧∀ b∈rs,adB b≠some g) from fun g hg=>⟨fun e=>by have e2:pb=g:=Option.some.inj e;have:=PAB.out.1;omega,fun b hb e=>by have:=PAB.out.2 b hb g e;omega⟩)
      have TBN:=Ac (show tb<b5 from by have:=HCK.out;have:=ZW.out;omega)
      have ZBN:=Ac (show ∀ g,b5<g→w0.heap.size≤g from fun g hg=>by have:=ZW.out;omega)
      refine (Nq P3.out M3.out (by have:=HCK.out;have:=LD.out;omega) (by have:=HCK.out;have:=LD.out;omega) (by have:=HCK.out;have:=Q12.out;have:=LD.out;omega)).mono ?_
      rintro en w4 ⟨rfl,X4,hp4,ht4⟩;rw [HMN.out];have P4:=Ac hp4;have M4:=Ac (M3.out.turn ht4);have U4:=Ac (U3.out.trans ht4);have PA4:=Ac (PA3.out.turn ht4);have NL4:=Ac (NL3.out.turn ht4);have NR4:=Ac (NR3.out.turn ht4);clear hp4 ht4 P3 M3 U3 PA3 NL3 NR3;obtain ⟨x0,x1,x2,x3⟩:=NL4.out.hz.cells4;obtain ⟨y0,y1,y2,y3⟩:=NR4.out.hz.cells4;have yf:=NR4.out.hz.frozen;have yz:=NR4.out.hz.lt;have xz:=NL4.out.hz.lt
      go_wp2_with fail
      have P5:=Ac (P4.out.set NR4.out.nx 0 (.int .i64 mN))
      have M5:=Ac (M4.out.set (by have:=TBN.out;omega) 0 (.int .i64 mN) (g:=b7+1))
      have U5:=Ac (U4.out.Di (ZBN.out (b7+1) (by omega)) 0 (.int .i64 mN))
      have PA5:=Ac (PA4.out.CM1 (PAN.out (b7+1) (by omega)).1 (PAN.out (b7+1) (by omega)).2 0 (.int .i64 mN))
      have NL5:=Ac (NL4.out.far (g:=b7+1) (by omega) LRX.out.1 0 (.int .i64 mN))
      have NR5:=Ac (NR4.out.num mN);clear x0 x1 x2 x3 y0 y1 y2 y3 yf yz xz P4 M4 U4 PA4 NL4 NR4
      generalize w4.setCell ⟨b7+1,0,none⟩ (.int .i64 mN)=W5 at *
      refine (Ko x.n l (.slice Aa cl.length ca) W5).mono ?_
      rintro en w6 ⟨rfl,hb6⟩;have P6:=Ac (P5.out.below hb6);have M6:=Ac (M5.out.below hb6);have U6:=Ac (U5.out.next hb6);have PA6:=Ac (PA5.out.below hb6);have NL6:=Ac (NL5.out.below hb6);have NR6:=Ac (NR5.out.below hb6);clear hb6 P5 M5 U5 PA5 NL5 NR5;obtain ⟨x0,x1,x2,x3⟩:=NL6.out.hz.cells4;have y0:=NR6.out.hz.cell 0;have xf:=NL6.out.hz.frozen;have xz:=NL6.out.hz.lt;have yz:=NR6.out.hz.lt
      go_wp2_with fail
      have P7:=Ac (P6.out.set NL6.out.nx 2 (.int .i64 mN))
      have M7:=Ac (M6.out.set (by have:=TBN.out;omega) 2 (.int .i64 mN) (g:=b7))
      have U7:=Ac (U6.out.Di (ZBN.out b7 (by omega)) 2 (.int .i64 mN))
      have PA7:=Ac (PA6.out.CM1 (PAN.out b7 (by omega)).1 (PAN.out b7 (by omega)).2 2 (.int .i64 mN))
      have NL7:=Ac (NL6.out.link mN)
      have NR7:=Ac (NR6.out.far (g:=b7) (by omega) LRX.out.2 2 (.int .i64 mN))
      clear x0 x1 x2 x3 y0 xf xz yz P6 M6 U6 PA6 NL6 NR6
      generalize w6.setCell ⟨b7,2,none⟩ (.int .i64 mN)=W7 at *
      have PGL:Qq (1,mN,cl):=⟨by show 1≤1;omega,by show 1≤5;omega,by have:=AL.out;have:=OK1.out.few;have:=ESZ.out;show mN≤_;omega,ESZ.out.1⟩
      have PGR:Qq (1,l2,cr):=⟨by show 1≤1;omega,by show 1≤5;omega,ESZ.out.2.2.2.2,ESZ.out.2.1⟩
      have SVR:=Ac (fun W X c1 k1 (hc1:c1≤60000) (hk1:k1≤900000000) (h:PT W X p (Sr.alloc.set x.n (1,mN,cl)) S0 c1 k1) (ht:TM W X tb p root) (hs:SS W Ab cr.length cr)=>Dp (n:=mN) (cp:=cb) (pg:=(1,l2,cr)) h ht hc1 hk1 AL.out.1 AL.out.2.1 AL.out.2.2.1 PGR hs (by have h9:cr.length≤253:=Oy PGR;omega))
      refine (Dp (n:=x.n) (cp:=ca) (pg:=(1,mN,cl)) P7.out M7.out (by have:=HCK.out;have:=LD.out;omega) (by have:=HCK.out;have:=LD.out;omega) XN.out.1.1 XN.out.2.2.1 XN.out.2.2.2 PGL NL7.out.ss (by have h9:cl.length≤253:=Oy PGL;omega)).mono ?_
      rintro en w8 ⟨rfl,X8,hp8,ht8⟩;have P8:=Ac hp8;have M8:=Ac (M7.out.turn ht8);have U8:=Ac (U7.out.trans ht8);have PA8:=Ac (PA7.out.turn ht8);have NR8:=Ac (NR7.out.turn ht8);clear hp8 ht8 P7 M7 U7 PA7 NL7 NR7 PGL PGR LRX;obtain ⟨y0,y1,y2,y3⟩:=NR8.out.hz.cells4
      go_wp2_with fail
      refine (SVR.out _ _ _ _ (by have:=HCK.out;have:=LD.out;omega) (by have:=HCK.out;have:=LD.out;omega) P8.out M8.out NR8.out.ss).mono ?_
      rintro en w9 ⟨rfl,X9,hp9,ht9⟩;have P9:=Ac hp9;have M9:=Ac (M8.out.turn ht9);have U9:=Ac (U8.out.trans ht9);have PA9:=Ac (PA8.out.turn ht9);have NR9:=Ac (NR8.out.turn ht9);clear hp9 ht9 P8 M8 U8 PA8 NR8 SVR y0 y1 y2 y3;obtain ⟨pb',cap',cu1,au,e1,hau,hbp,hcz,su⟩:=PA9.out.step T1.out
      have e2:pb=pb'∧cap=cap':=by
       injection e1 with e1 e4 e3
       injection e1 with e1
       injection e1 with e1
       exact ⟨e1,e3⟩
      obtain ⟨rfl,rfl⟩:=e2;have SU:=Ac su;have su5:=su;rw [Nat.mul_comm 5 m] at su5;obtain ⟨uc,huc⟩:∃ l,(u.y.its.drop 1).map Af=l:=⟨_,rfl⟩;obtain ⟨ul,hul⟩:∃ l,Dz (u.y.its.headD ⟨[],[]⟩).r=l:=⟨_,rfl⟩;obtain ⟨ui,hui⟩:∃ l,u.U.length=l:=⟨_,rfl⟩;have hs5:Ji w9 X9 pb (m*5) u.y.n 2 (Dz (u.y.its.headD ⟨[],[]⟩).r) u.U.length ((u.y.its.drop 1).map Af).length au.2 au.1 cu1 ((u.y.its.drop 1).map Af):=su5;rw [huc,hul,hui] at hs5
      have HS5:=Ac hs5
      have hucl:uc.length≤300∧ui≤uc.length∧u.y.its=u.U++[Dl x]++u.V:=by
       have hits:=Q3.out.abv.1.its
       have h1:Ai (u.y.its.drop 1)≤1012:=(Q3.out.abv.1.fit u.y (List.mem_append_right _ List.mem_cons_self) (fun e=>by
        have hnd:=Q3.out.nd;unfold Eh at hnd
        exact (List.nodup_append.1 hnd).2.2 x.n (Bg (by simp) Ds) u.y.n (List.mem_append_left _ (List.mem_map_of_mem (List.mem_append_right _ List.mem_cons_self))) e.symm)).le
       have h2:=Fz (u.y.its.drop 1)
       refine ⟨by rw [← huc,List.length_map];omega, ?_,by rw [hits];rfl⟩
       rw [← huc,← hui,List.length_map,List.length_drop,hits];simp
      have HUC:=Ac (And.intro huc (And.intro hul (And.intro hui hucl)));have HAU:=Ac hau;have HCZ1:=Ac hcz;have u300:uc.length≤300:=hucl.1;obtain ⟨p0,p1,p2,p3,p4⟩:=hs5.at5;have pz:=hs5.hb.lt;have e9:=NR9.out.hz.cell 0;have ez:=NR9.out.hz.lt
      have FO:=Ac (fun W=>Jh mN (by have:=AL.out;have:=OK1.out.few;omega) W)
      have CE:=Ac (fun W=>Ih ⟨y.k,Ak mN⟩ ESZ.out.2.2.1 (by simp [Ak]) W)
      obtain ⟨F,hF⟩:∃ v,bsK (Ak mN)=v:=⟨_,rfl⟩;obtain ⟨CB,hCB⟩:∃ v,Af ⟨y.k,Ak mN⟩=v:=⟨_,rfl⟩;have hF2:bsK (⟨y.k,Ak mN⟩:It).r=F:=hF;have hK2:bsK (⟨y.k,Ak mN⟩:It).k=K:=HK.out;rw [hF] at FO;rw [hK2,hF2,hCB] at CE;have HCB:=Ac hCB
      have XB9:=Ac (show pb≠b7+1 from fun e=>(PAN.out (b7+1) (by omega)).1 (by rw [e];rfl))
      clear su su5 e1 hau hbp hcz hs5 hucl huc hul hui hF hCB hF2 hK2
      have i2:(m:Int)<(N:Int):=by omega
      go_wp2_with fail
      refine Ib 16 (.pointer (some ⟨pb,m*5,none⟩)) (Cls (w9)) (FB1 pb (m*5) ui (b7+1) mN uc.length au.2 w9.heap.size au.1 K F CB) (by kernel_rfl) (by kernel_rfl) (by kernel_rfl) (by kernel_rfl) (by kernel_rfl) (by kernel_rfl) (fun _ _ hC hb=>Cls.step hC hb) ?hst (Cls.start _) (fun _ _ _ h=>h) ?hy ?hp0 ?hops ?hend
      case hy=>exact Or.inl ⟨by rfl,fun w=>by (go_simp;first | done | (with_reducible rfl))⟩
      case hp0=>exact fun _=>rfl
      case hst=>exact DS0 _ _ _ _ _ _ _ _ _ _ _ _
      case hops =>
       intro us wx hus hC
       obtain ⟨u0,u1,u2,u3,u4,u5,u6,u7,u8,u9,u10,u11,u12,u13,u14,u15,u16,rfl⟩:∃ u0 u1 u2 u3 u4 u5 u6 u7 u8 u9 u10 u11 u12 u13 u14 u15 u16,us=[u0,u1,u2,u3,u4,u5,u6,u7,u8,u9,u10,u11,u12,u13,u14,u15,u16]:=by
        match us,hus with
        | [u0,u1,u2,u3,u4,u5,u6,u7,u8,u9,u10,u11,u12,u13,u14,u15,u16],_=>exact ⟨u0,u1,u2,u3,u4,u5,u6,u7,u8,u9,u10,u11,u12,u13,u14,u15,u16,rfl⟩
       clear hus;simp only [Bq,Act.put,List.take_succ_cons,List.take_zero,List.setIfInBounds_toArray,List.set_cons_zero,List.set_cons_succ]
       refine ⟨fun h=>?_,fun h=>?_,fun h=>?_,fun h=>?_,fun h=>?_,fun h=>?_,fun h=>?_,fun h=>?_,fun h=>?_,fun h=>?_,fun h=>?_,fun h=>?_,fun h=>?_,fun h=>?_,fun h=>?_,fun h=>?_,fun h=>?_,trivial⟩
       ·(clear h;refine Ae rfl ?_;go_simp;exact ⟨Below.refl _ _,rfl⟩)
       ·(clear h;refine Ae rfl ?_;go_simp;exact ⟨Below.refl _ _,rfl⟩)
       ·obtain rfl:=h 1 rfl
        (clear h;refine Ae rfl ?_;go_simp;exact ⟨Below.refl _ _,rfl⟩)
       ·obtain rfl:=h 2 rfl
        (clear h;refine Ae rfl ?_;go_simp;exact ⟨Below.refl _ _,rfl⟩)
       ·obtain rfl:=h 3 rfl
        (clear h;refine Ae rfl ?_;go_simp;exact ⟨Below.refl _ _,rfl⟩)
       ·obtain rfl:=h 4 rfl
        (clear h;refine Ae rfl ?_;go_simp;exact ⟨Below.refl _ _,rfl⟩)
       ·obtain rfl:=h 5 rfl
        (clear h;refine Ae rfl ?_;obtain ⟨hc,hf⟩:=hC.facts;go_simp;exact ⟨Below.refl _ _,rfl⟩)
       ·(clear h;refine Ae rfl ?_;go_simp;exact ⟨Below.refl _ _,rfl⟩)
       ·obtain rfl:=h 7 rfl
        (clear h;refine Ae rfl ?_;go_simp;exact ⟨Below.refl _ _,rfl⟩)
       ·obtain rfl:=h 8 rfl
        (clear h;refine Ae rfl ?_;go_simp;exact ⟨Below.refl _ _,rfl⟩)
       ·obtain rfl:=h 9 rfl
        (clear h;refine Ae rfl ?_;obtain ⟨hc,hf⟩:=hC.facts;go_simp;exact ⟨Below.refl _ _,rfl⟩)
       ·(clear h;refine Ae rfl ?_;go_simp;exact ⟨Below.refl _ _,rfl⟩)
       ·(clear h;refine Ae rfl ?_;go_simp;exact ⟨Below.refl _ _,rfl⟩)
       ·obtain rfl:=h 12 rfl
        (clear h;refine Ae rfl ?_;obtain ⟨hc,hf⟩:=hC.facts;go_simp;exact ⟨Below.refl _ _,rfl⟩)
       ·obtain rfl:=h 13 rfl
        (clear h;refine Ae rfl ?_;go_simp;refine (FO.out _).mono ?_;rintro e w1 ⟨rfl,hb⟩;exact ⟨_,rfl,hb,rfl⟩)
       ·obtain rfl:=h 11 rfl
        obtain rfl:=h 14 rfl
        (clear h;refine Ae rfl ?_;go_simp;refine (CE.out _).mono ?_;rintro e w1 ⟨rfl,hb⟩;exact ⟨_,rfl,hb,rfl⟩)
       ·obtain rfl:=h 15 rfl
        (clear h;refine Ae rfl ?_;go_simp;exact ⟨(Below.refl _ _).alloc (Nat.le_refl _) _,_,rfl,Has.new _ _ _,hC.bel.size⟩)
      case hend =>
      intro us wx hus hC
      obtain ⟨u0,u1,u2,u3,u4,u5,u6,u7,u8,u9,u10,u11,u12,u13,u14,u15,u16,rfl⟩:∃ u0 u1 u2 u3 u4 u5 u6 u7 u8 u9 u10 u11 u12 u13 u14 u15 u16,us=[u0,u1,u2,u3,u4,u5,u6,u7,u8,u9,u10,u11,u12,u13,u14,u15,u16]:=by
       match us,hus with
       | [u0,u1,u2,u3,u4,u5,u6,u7,u8,u9,u10,u11,u12,u13,u14,u15,u16],_=>exact ⟨u0,u1,u2,u3,u4,u5,u6,u7,u8,u9,u10,u11,u12,u13,u14,u15,u16,rfl⟩
      clear hus;intro hall;obtain ⟨h0,h1,h2,h3,h4,h5,h6,h7,h8,h9,h10,h11,h12,h13,h14,h15,h16,_⟩:=hall;obtain ⟨gc,rfl,hgc,glo⟩:=h16;obtain rfl:=h0;obtain rfl:=h6;obtain rfl:=h10;have P10:=Ac (P9.out.below hC.bel);have M10:=Ac (M9.out.below hC.bel);have U10:=Ac (U9.out.next hC.bel);have PA10:=Ac (PA9.out.below hC.bel);have HS10:=Ac (HS5.out.below hC.bel);have SU10:=Ac (SU.out.below hC.bel)
      have INS:=Ac (Nb (i:=ui) HS10.out.row HUC.out.2.2.2.2.1 hgc (fun e=>by have:=(HS5.out.row.lt gc e).2;omega) (by omega) (Nat.zero_le _))
      clear h1 h2 h3 h4 h5 h7 h8 h9 h11 h12 h13 h14 h15 hC hgc glo p0 p1 p2 p3 p4 pz e9 ez FO CE P9 M9 U9 PA9 HS5 SU NR9;simp only [Bq,Act.put,List.take_succ_cons,List.take_zero,List.drop_succ_cons,List.drop_zero,List.setIfInBounds_toArray,List.set_cons_zero,List.set_cons_succ]
      go_wp2_with (go_at_call 53;(with_reducible refine INS.out.mono ?_);rintro en w11 ⟨v11,rfl,ho11,hg11,hat11⟩;obtain ⟨A11,c11,rfl,hc11⟩:=Bd ho11;have HO11:=Ac ho11;have HG11:=Ac hg11;have HA11:=Ac hat11;have nru:=Ac (show Has w11 pb 122 cu1 from (hg11.block pb HS10.out.hb.lt (fun e=>(HS10.out.rx pb e.symm).2 rfl)).trans HS10.out.hb);clear ho11 hg11 hat11;have pf:=nru.out.frozen;have pz:=nru.out.lt;have p3:w11.cell? ⟨pb,m*5+3,none⟩=some (.slice au.1 uc.length au.2):=(nru.out.cell _).trans HS10.out.c3)
      have hsn:=Q13.out;have hbw:w0.heap.size≤wx.heap.size:=U10.out.size;have PA10':=PA10.out;rw [← hsn] at PA10'
      have e11:∀ g,(Value.slice A11 (uc.length+1) c11).ownBlock=some g→some g∉X9∧g≠pb:=fun g hg=>by
       rcases HA11.out with e | e
       ·exact HS10.out.rx g (by rw [← e];exact hg)
       ·have e5:g=wx.heap.size:=Option.some.inj (hg.symm.trans e)
        exact ⟨fun hm=>by have:=P10.out.lt g hm;omega,by have:=HS10.out.hb.lt;omega⟩
      have hat11:∀ g,(Value.slice A11 (uc.length+1) c11).ownBlock=some g→(Value.slice au.1 uc.length au.2).ownBlock=some g∨wx.heap.size≤g:=fun g hg=>by
       rcases HA11.out with e | e
       ·exact .inl (by rw [← e];exact hg)
       ·have e5:g=wx.heap.size:=Option.some.inj (hg.symm.trans e)
        exact .inr (by omega)
      have hsz11:m*5+3<cu1.size:=by have:=HCZ1.out;have:=HNN.out;have:=LD.out;omega
      have st11:=HS10.out.put nru.out hsz11 HO11.out e11;have tu11:=Vz (pb:=pb) (v':=.slice A11 (uc.length+1) c11) (Turn.refl X9 wx) HG11.out hat11 (m*5+3) (.slice A11 (uc.length+1) c11)
      have rge:∀ g,(Value.slice au.1 uc.length au.2).ownBlock=some g→w0.heap.size≤g:=fun g hg=>(PA10.out.rows.lt au (List.mem_of_getElem? HAU.out) g (by
       rw [← hg];have q:=(Gf (upS u) au).symm
       have e:slV (upS u) au = .slice au.1 uc.length au.2:=by rw [← HUC.out.1];rfl
       rw [e] at q;exact q)).1
      have pge:w0.heap.size≤pb:=(PA10.out.own.lt pb rfl).1;have tbl:=HCK.out.2.2.2.2.1
      have M12:TM (w11.setCell ⟨pb,m*5+3,none⟩ (.slice A11 (uc.length+1) c11)) X9 tb p root:=(M10.out.grown HG11.out (fun e=>by have:=rge tb e.symm;omega)).set (by omega) _ _
      have P12:PT (w11.setCell ⟨pb,m*5+3,none⟩ (.slice A11 (uc.length+1) c11)) X9 p ((Sr.alloc.set x.n (1,mN,cl)).set mN (1,l2,cr)) S0 (c+6*(Ds.length+1)) (k+10*(Ds.length+1)):=((P10.out.grown HG11.out (fun g hg=>(HS10.out.rx g hg).1)).set HS10.out.nb _ _).more (by omega) (by omega)
      have U12:Turn X0 X9 w0 (w11.setCell ⟨pb,m*5+3,none⟩ (.slice A11 (uc.length+1) c11)):=U10.out.loc tu11 (fun g hg=>by
       rcases List.mem_cons.1 hg with e | hg
       ·exact .inr (by have:g=pb:=Option.some.inj e;omega)
       ·rcases List.mem_cons.1 hg with e | hg
        ·exact .inr (rge g e.symm)
        ·exact .inl hg) (fun g hg=>List.mem_cons_of_mem _ (List.mem_cons_of_mem _ hg))
      obtain ⟨cells',hcl'⟩:∃ l,uc.take ui++CB :: uc.drop ui=l:=⟨_,rfl⟩
      have hll:cells'.length=uc.length+1:=by
       rw [← hcl',List.length_append,List.length_take,List.length_cons,List.length_drop];have:=HUC.out.2.2.2.2.1;omega
      rw [hcl'] at st11;rw [← hll] at st11 tu11 hat11 M12 P12 U12 ⊢
      have st12:Ji (w11.setCell ⟨pb,m*5+3,none⟩ (.slice A11 cells'.length c11)) X9 pb (5*m) u.y.n 2 (Dz (u.y.its.headD ⟨[],[]⟩).r) u.U.length cells'.length c11 A11 (cu1.setIfInBounds (5*m+3) (.slice A11 cells'.length c11)) cells':=by
       rw [HUC.out.2.1,HUC.out.2.2.1,Nat.mul_comm 5 m];exact st11
      have tu12:Turn (some pb :: (Value.slice au.1 ((u.y.its.drop 1).map Af).length au.2).ownBlock :: X9) (some pb :: (Value.slice A11 cells'.length c11).ownBlock :: X9) wx (w11.setCell ⟨pb,m*5+3,none⟩ (.slice A11 cells'.length c11)):=by rw [HUC.out.1];exact tu11
      have hat12:∀ g,(Value.slice A11 cells'.length c11).ownBlock=some g→(Value.slice au.1 ((u.y.its.drop 1).map Af).length au.2).ownBlock=some g∨wx.heap.size≤g:=by rw [HUC.out.1];exact hat11
      have PA12:=PA10'.back (j:=m) (n:=u.y.n) (kd:=2) (l:=Dz (u.y.its.headD ⟨[],[]⟩).r) (i:=u.U.length) (cells:=(u.y.its.drop 1).map Af) (A:=au.1) (c:=au.2) T1.out HAU.out rfl st12 SU10.out tu12 hat12 hbw;rw [hsn] at PA12
      have sp:=PD1.out.split (G':=_) HU1.out (m:=mN) (fun hm=>(OTH.out mN hm).1 rfl) ESX.out.1 ESX.out.2.1 rfl
      rw [EP1.out mN,EP2.out mN] at sp;have FIN:=Ac (And.intro M12 (And.intro P12 (And.intro U12 (And.intro PA12 (And.intro sp hcl')))));clear M12 P12 U12 PA12 sp hcl' st11 st12 tu11 tu12 hat11 hat12 e11 PA10' rge
      go_roundg (m+1)
      case rel =>
       have eY:=ESX.out.2.1;have eX:=ESX.out.1
       have hits:x.its=X1++y :: Y:=by rw [← eX,← eY,List.take_append_drop]
       have hyi:=HUC.out.2.2.2.2.2
       refine ⟨(Sr.alloc.set x.n (1,mN,cl)).set mN (1,l2,cr),(A++[(⟨x.n,x.lo,X1⟩:Nd),⟨mN,y.k,y :: Y⟩]++B) :: Ds,u.A,⟨u.y.n,u.y.lo,u.U++([⟨x.lo,Ak x.n⟩,⟨y.k,Ak mN⟩]:List It)++u.V⟩,u.B,r,_,_,X9,u.U.length,m,HNR.out,rfl,rfl,FIN.out.2.2.2.2.1.1, ?_, ?_,FIN.out.2.1,FIN.out.1,FIN.out.2.2.1,FIN.out.2.2.2.1, ?_, ?_, ?_, ?_⟩
       ·refine Eq.trans ?_ Q4.out
        show Ig (A++[_,_]++B) Ds=_
        cases Ds with
        | nil =>
          show (A++[(⟨x.n,x.lo,X1⟩:Nd),⟨mN,y.k,y :: Y⟩]++B).flatMap (fun x:Nd=>x.its)=(A++x :: B).flatMap (fun x:Nd=>x.its)
          have e:([(⟨x.n,x.lo,X1⟩:Nd),⟨mN,y.k,y :: Y⟩]:List Nd).flatMap (fun x:Nd=>x.its)=x.its:=by
           simp only [List.flatMap_cons,List.flatMap_nil,List.append_nil];exact hits.symm
          rw [List.flatMap_append,List.flatMap_append,e,List.flatMap_append,List.flatMap_cons,List.append_assoc]
        | cons D t=>rfl
       ·refine Q5.out.trans ?_
        have m1:=Mv.alloc OKF.out (Eh (A++x :: B) Ds (u :: r));rw [HMN.out] at m1
        refine ((m1.trans (Mv.set (n:=x.n) (List.mem_cons_of_mem _ (List.mem_append_left _ (Bg (by simp) Ds))) _)).trans (Mv.set (n:=mN) List.mem_cons_self _)).perm (List.Perm.refl _) ?_
        refine FIN.out.2.2.2.2.1.2.trans ?_
        exact List.perm_append_comm
       ·rw [List.take_set,List.take_add_one,T1.out,T2.out]
        show (Gw r++[upS u]).set m _=_
        rw [List.set_append_right _ _ (by rw [Ce,HNR.out];exact Nat.le_refl _),Ce,HNR.out,Nat.sub_self]
        show Gw r++[(⟨u.y.n,(2,Dz (u.y.its.headD ⟨[],[]⟩).r,cells'),u.U.length⟩:Stp)]=Gw r++[⟨u.y.n,Yr ⟨u.y.n,u.y.lo,u.U++([⟨x.lo,Ak x.n⟩,⟨y.k,Ak mN⟩]:List It)++u.V⟩,u.U.length⟩]
        unfold Yr
        have c1:cells'=((u.U++([⟨x.lo,Ak x.n⟩,⟨y.k,Ak mN⟩]:List It)++u.V).drop 1).map Af:=by
         rw [← FIN.out.2.2.2.2.2,← HUC.out.1,← HUC.out.2.2.1,← HCB.out,hyi];exact KE0 _
        have c2:Dz (u.y.its.headD ⟨[],[]⟩).r=Dz ((u.U++([⟨x.lo,Ak x.n⟩,⟨y.k,Ak mN⟩]:List It)++u.V).headD ⟨[],[]⟩).r:=by
         rw [hyi];cases u.U <;> rfl
        rw [c1,c2]
       ·have:=LD.out;simp only [List.length_cons];omega
       ·have:=Q12.out;have:=AL.out;simp only [List.length_cons];show Sr.alloc.q≤_;omega
       ·rw [List.length_set];exact hsn
      case measure=>have:=Q1.out;omega
     ·have EP1:=Ac (fun m=>(ESX.out.2.2 m).2.1 rfl)
      have EP2:=Ac (fun m=>(ESX.out.2.2 m).2.2)
      go_wp2_with fail
      refine (SP.out _ ST1.out.ss).mono ?_
      rintro en w2 ⟨va,vb,rfl,hoa,hob,hab,hb2⟩;obtain ⟨Aa,ca,rfl,hca⟩:=Bd hoa;obtain ⟨Ab,cb,rfl,hcb⟩:=Bd hob;have OA9:=Ac hoa;have OB9:=Ac hob;have AB9:=Ac hab;have HB9:=Ac hb2;clear hoa hob hab hb2
      go_wp2_with fail
      have hoa:=OA9.out;have hob:=OB9.out;have hab:=AB9.out;have hb2:=HB9.out;clear OA9 OB9 AB9 HB9;have bz2:=hb2.size;have HX:=Z1.out.lt;have HL9:=Has.new w2 116 #[.int .i64 x.n,.int .i64 2,.int .i64 l,.slice Aa cl.length ca];have HR9:=Has.new (w2.alloc (.cells #[.int .i64 x.n,.int .i64 2,.int .i64 l,.slice Aa cl.length ca] 116)) 116 #[.int .i64 x.n,.int .i64 2,.int .i64 l2,.slice Ab cr.length cb]
      rw [World.size_alloc] at HR9
      have bq:=((Below.refl w2.heap.size w2).alloc (Nat.le_refl _) (.cells #[.int .i64 x.n,.int .i64 2,.int .i64 l,.slice Aa cl.length ca] 116)).alloc (by simp) (.cells #[.int .i64 x.n,.int .i64 2,.int .i64 l2,.slice Ab cr.length cb] 116)
      have lt1:=P1.out.lt;have P3:=Ac ((P1.out.below hb2).below bq);have M3:=Ac ((M1.out.below hb2).below bq);have U3:=Ac ((U1.out.next hb2).next bq);have PA3:=Ac ((PA1.out.below hb2).below bq)
      have NL3:=Ac (Nw.mk2 (bs:=cl) (X:=X') (z:=0) (Nat.zero_le _) (fun hm=>by have:=lt1 _ hm;omega) (HL9.alloc (.cells #[.int .i64 x.n,.int .i64 2,.int .i64 l2,.slice Ab cr.length cb] 116)) ((hoa.alloc _).alloc _) (Nat.zero_le _) lt1 (fun g hg=>by have:=(hoa.lt g hg).2;omega))
      have NR3:=Ac (Nw.mk2 (bs:=cr) (X:=X') (z:=0) (b:=w2.heap.size+1) (Nat.zero_le _) (fun hm=>by have:=lt1 _ hm;omega) HR9 ((hob.alloc _).alloc _) (Nat.zero_le _) lt1 (fun g hg=>by have:=(hob.lt g hg).2;omega))
      have LRX:=Ac (show (∀ g,(Value.slice Aa cl.length ca).ownBlock=some g→g≠w2.heap.size+1)∧(∀ g,(Value.slice Ab cr.length cb).ownBlock=some g→g≠w2.heap.size) from ⟨fun g hg=>by have:=(hoa.lt g hg).2;omega,fun g hg=>by have:=(hob.lt g hg).2;omega⟩)
      have D7:b5<w2.heap.size:=by omega
      clear HL9 HR9 bq hoa hob hab hb2 bz2 hca hcb lt1 P1 M1 U1 PA1 ST1 Z1 z0 z1 z2 z3 zl SP HX
      generalize (w2.alloc (.cells #[.int .i64 x.n,.int .i64 2,.int .i64 l,.slice Aa cl.length ca] 116)).alloc (.cells #[.int .i64 x.n,.int .i64 2,.int .i64 l2,.slice Ab cr.length cb] 116)=W3 at *
      generalize hb7:w2.heap.size=b7 at *
      clear hb7
      have PAN:=Ac (show (∀ g,b5<g→(Value.slice (some ⟨pb,0,none⟩) N cap).ownBlock≠some g∧∀ b∈rs,adB b≠some g) from fun g hg=>⟨fun e=>by have e2:pb=g:=Option.some.inj e;have:=PAB.out.1;omega,fun b hb e=>by have:=PAB.out.2 b hb g e;omega⟩)
      have TBN:=Ac (show tb<b5 from by have:=HCK.out;have:=ZW.out;omega)
      have ZBN:=Ac (show ∀ g,b5<g→w0.heap.size≤g from fun g hg=>by have:=ZW.out;omega)
      refine (Nq P3.out M3.out (by have:=HCK.out;have:=LD.out;omega) (by have:=HCK.out;have:=LD.out;omega) (by have:=HCK.out;have:=Q12.out;have:=LD.out;omega)).mono ?_
      rintro en w4 ⟨rfl,X4,hp4,ht4⟩;rw [HMN.out];have P4:=Ac hp4;have M4:=Ac (M3.out.turn ht4);have U4:=Ac (U3.out.trans ht4);have PA4:=Ac (PA3.out.turn ht4);have NL4:=Ac (NL3.out.turn ht4);have NR4:=Ac (NR3.out.turn ht4);clear hp4 ht4 P3 M3 U3 PA3 NL3 NR3;obtain ⟨x0,x1,x2,x3⟩:=NL4.out.hz.cells4;obtain ⟨y0,y1,y2,y3⟩:=NR4.out.hz.cells4;have yf:=NR4.out.hz.frozen;have yz:=NR4.out.hz.lt;have xz:=NL4.out.hz.lt
      go_wp2_with fail
      have P5:=Ac (P4.out.set NR4.out.nx 0 (.int .i64 mN))
      have M5:=Ac (M4.out.set (by have:=TBN.out;omega) 0 (.int .i64 mN) (g:=b7+1))
      have U5:=Ac (U4.out.Di (ZBN.out (b7+1) (by omega)) 0 (.int .i64 mN))
      have PA5:=Ac (PA4.out.CM1 (PAN.out (b7+1) (by omega)).1 (PAN.out (b7+1) (by omega)).2 0 (.int .i64 mN))
      have NL5:=Ac (NL4.out.far (g:=b7+1) (by omega) LRX.out.1 0 (.int .i64 mN))
      have NR5:=Ac (NR4.out.num mN);clear x0 x1 x2 x3 y0 y1 y2 y3 yf yz xz P4 M4 U4 PA4 NL4 NR4
      generalize w4.setCell ⟨b7+1,0,none⟩ (.int .i64 mN)=W5 at *
      refine (Jv x.n l (.slice Aa cl.length ca) W5).mono ?_
      rintro en w6 ⟨rfl,hb6⟩;have P6:=Ac (P5.out.below hb6);have M6:=Ac (M5.out.below hb6);have U6:=Ac (U5.out.next hb6);have PA6:=Ac (PA5.out.below hb6);have NL6:=Ac (NL5.out.below hb6);have NR6:=Ac (NR5.out.below hb6);clear hb6 P5 M5 U5 PA5 NL5 NR5;obtain ⟨x0,x1,x2,x3⟩:=NL6.out.hz.cells4;have y0:=NR6.out.hz.cell 0;have xf:=NL6.out.hz.frozen;have xz:=NL6.out.hz.lt;have yz:=NR6.out.hz.lt
      go_wp2_with fail
      have P7:=P6;have M7:=M6;have U7:=U6;have PA7:=PA6;have NL7:=NL6;have NR7:=NR6;clear x0 x1 x2 x3 y0 xf xz yz P6 M6 U6 PA6 NL6 NR6
      have PGL:Qq (2,l,cl):=⟨by show 1≤2;omega,by show 2≤5;omega,by have:=AL.out;have:=OK1.out.few;have:=ESZ.out;show l≤_;omega,ESZ.out.1⟩
      have PGR:Qq (2,l2,cr):=⟨by show 1≤2;omega,by show 2≤5;omega,ESZ.out.2.2.2.2,ESZ.out.2.1⟩
      have SVR:=Ac (fun W X c1 k1 (hc1:c1≤60000) (hk1:k1≤900000000) (h:PT W X p (Sr.alloc.set x.n (2,l,cl)) S0 c1 k1) (ht:TM W X tb p root) (hs:SS W Ab cr.length cr)=>Dp (n:=mN) (cp:=cb) (pg:=(2,l2,cr)) h ht hc1 hk1 AL.out.1 AL.out.2.1 AL.out.2.2.1 PGR hs (by have h9:cr.length≤253:=Oy PGR;omega))
      refine (Dp (n:=x.n) (cp:=ca) (pg:=(2,l,cl)) P7.out M7.out (by have:=HCK.out;have:=LD.out;omega) (by have:=HCK.out;have:=LD.out;omega) XN.out.1.1 XN.out.2.2.1 XN.out.2.2.2 PGL NL7.out.ss (by have h9:cl.length≤253:=Oy PGL;omega)).mono ?_
      rintro en w8 ⟨rfl,X8,hp8,ht8⟩;have P8:=Ac hp8;have M8:=Ac (M7.out.turn ht8);have U8:=Ac (U7.out.trans ht8);have PA8:=Ac (PA7.out.turn ht8);have NR8:=Ac (NR7.out.turn ht8);clear hp8 ht8 P7 M7 U7 PA7 NL7 NR7 PGL PGR LRX;obtain ⟨y0,y1,y2,y3⟩:=NR8.out.hz.cells4
      go_wp2_with fail
      refine (SVR.out _ _ _ _ (by have:=HCK.out;have:=LD.out;omega) (by have:=HCK.out;have:=LD.out;omega) P8.out M8.out NR8.out.ss).mono ?_
      rintro en w9 ⟨rfl,X9,hp9,ht9⟩;have P9:=Ac hp9;have M9:=Ac (M8.out.turn ht9);have U9:=Ac (U8.out.trans ht9);have PA9:=Ac (PA8.out.turn ht9);have NR9:=Ac (NR8.out.turn ht9);clear hp9 ht9 P8 M8 U8 PA8 NR8 SVR y0 y1 y2 y3;obtain ⟨pb',cap',cu1,au,e1,hau,hbp,hcz,su⟩:=PA9.out.step T1.out
      have e2:pb=pb'∧cap=cap':=by
       injection e1 with e1 e4 e3
       injection e1 with e1
       injection e1 with e1
       exact ⟨e1,e3⟩
      obtain ⟨rfl,rfl⟩:=e2;have SU:=Ac su;have su5:=su;rw [Nat.mul_comm 5 m] at su5;obtain ⟨uc,huc⟩:∃ l,(u.y.its.drop 1).map Af=l:=⟨_,rfl⟩;obtain ⟨ul,hul⟩:∃ l,Dz (u.y.its.headD ⟨[],[]⟩).r=l:=⟨_,rfl⟩;obtain ⟨ui,hui⟩:∃ l,u.U.length=l:=⟨_,rfl⟩;have hs5:Ji w9 X9 pb (m*5) u.y.n 2 (Dz (u.y.its.headD ⟨[],[]⟩).r) u.U.length ((u.y.its.drop 1).map Af).length au.2 au.1 cu1 ((u.y.its.drop 1).map Af):=su5;rw [huc,hul,hui] at hs5
      have HS5:=Ac hs5
      have hucl:uc.length≤300∧ui≤uc.length∧u.y.its=u.U++[Dl x]++u.V:=by
       have hits:=Q3.out.abv.1.its
       have h1:Ai (u.y.its.drop 1)≤1012:=(Q3.out.abv.1.fit u.y (List.mem_append_right _ List.mem_cons_self) (fun e=>by
        have hnd:=Q3.out.nd;unfold Eh at hnd
        exact (List.nodup_append.1 hnd).2.2 x.n (Bg (by simp) Ds) u.y.n (List.mem_append_left _ (List.mem_map_of_mem (List.mem_append_right _ List.mem_cons_self))) e.symm)).le
       have h2:=Fz (u.y.its.drop 1)
       refine ⟨by rw [← huc,List.length_map];omega, ?_,by rw [hits];rfl⟩
       rw [← huc,← hui,List.length_map,List.length_drop,hits];simp
      have HUC:=Ac (And.intro huc (And.intro hul (And.intro hui hucl)));have HAU:=Ac hau;have HCZ1:=Ac hcz;have u300:uc.length≤300:=hucl.1;obtain ⟨p0,p1,p2,p3,p4⟩:=hs5.at5;have pz:=hs5.hb.lt;have e9:=NR9.out.hz.cell 0;have ez:=NR9.out.hz.lt
      have FO:=Ac (fun W=>Jh mN (by have:=AL.out;have:=OK1.out.few;omega) W)
      have CE:=Ac (fun W=>Ih ⟨y.k,Ak mN⟩ ESZ.out.2.2.1 (by simp [Ak]) W)
      obtain ⟨F,hF⟩:∃ v,bsK (Ak mN)=v:=⟨_,rfl⟩;obtain ⟨CB,hCB⟩:∃ v,Af ⟨y.k,Ak mN⟩=v:=⟨_,rfl⟩;have hF2:bsK (⟨y.k,Ak mN⟩:It).r=F:=hF;have hK2:bsK (⟨y.k,Ak mN⟩:It).k=K:=HK.out;rw [hF] at FO;rw [hK2,hF2,hCB] at CE;have HCB:=Ac hCB
      have XB9:=Ac (show pb≠b7+1 from fun e=>(PAN.out (b7+1) (by omega)).1 (by rw [e];rfl))
      clear su su5 e1 hau hbp hcz hs5 hucl huc hul hui hF hCB hF2 hK2
      have i2:(m:Int)<(N:Int):=by omega
      go_wp2_with fail
      refine Ib 16 (.pointer (some ⟨pb,m*5,none⟩)) (Cls (w9)) (FB1 pb (m*5) ui (b7+1) mN uc.length au.2 w9.heap.size au.1 K F CB) (by kernel_rfl) (by kernel_rfl) (by kernel_rfl) (by kernel_rfl) (by kernel_rfl) (by kernel_rfl) (fun _ _ hC hb=>Cls.step hC hb) ?hst (Cls.start _) (fun _ _ _ h=>h) ?hy ?hp0 ?hops ?hend
      case hy=>exact Or.inl ⟨by rfl,fun w=>by (go_simp;first | done | (with_reducible rfl))⟩
      case hp0=>exact fun _=>rfl
      case hst=>exact DS0 _ _ _ _ _ _ _ _ _ _ _ _
      case hops =>
       intro us wx hus hC
       obtain ⟨u0,u1,u2,u3,u4,u5,u6,u7,u8,u9,u10,u11,u12,u13,u14,u15,u16,rfl⟩:∃ u0 u1 u2 u3 u4 u5 u6 u7 u8 u9 u10 u11 u12 u13 u14 u15 u16,us=[u0,u1,u2,u3,u4,u5,u6,u7,u8,u9,u10,u11,u12,u13,u14,u15,u16]:=by
        match us,hus with
        | [u0,u1,u2,u3,u4,u5,u6,u7,u8,u9,u10,u11,u12,u13,u14,u15,u16],_=>exact ⟨u0,u1,u2,u3,u4,u5,u6,u7,u8,u9,u10,u11,u12,u13,u14,u15,u16,rfl⟩
       clear hus;simp only [Bq,Act.put,List.take_succ_cons,List.take_zero,List.setIfInBounds_toArray,List.set_cons_zero,List.set_cons_succ]
       refine ⟨fun h=>?_,fun h=>?_,fun h=>?_,fun h=>?_,fun h=>?_,fun h=>?_,fun h=>?_,fun h=>?_,fun h=>?_,fun h=>?_,fun h=>?_,fun h=>?_,fun h=>?_,fun h=>?_,fun h=>?_,fun h=>?_,fun h=>?_,trivial⟩
       ·(clear h;refine Ae rfl ?_;go_simp;exact ⟨Below.refl _ _,rfl⟩)
       ·(clear h;refine Ae rfl ?_;go_simp;exact ⟨Below.refl _ _,rfl⟩)
       ·obtain rfl:=h 1 rfl
        (clear h;refine Ae rfl ?_;go_simp;exact ⟨Below.refl _ _,rfl⟩)
       ·obtain rfl:=h 2 rfl
        (clear h;refine Ae rfl ?_;go_simp;exact ⟨Below.refl _ _,rfl⟩)
       ·obtain rfl:=h 3 rfl
        (clear h;refine Ae rfl ?_;go_simp;exact ⟨Below.refl _ _,rfl⟩)
       ·obtain rfl:=h 4 rfl
        (clear h;refine Ae rfl ?_;go_simp;exact ⟨Below.refl _ _,rfl⟩)
       ·obtain rfl:=h 5 rfl
        (clear h;refine Ae rfl ?_;obtain ⟨hc,hf⟩:=hC.facts;go_simp;exact ⟨Below.refl _ _,rfl⟩)
       ·(clear h;refine Ae rfl ?_;go_simp;exact ⟨Below.refl _ _,rfl⟩)
       ·obtain rfl:=h 7 rfl
        (clear h;refine Ae rfl ?_;go_simp;exact ⟨Below.refl _ _,rfl⟩)
       ·obtain rfl:=h 8 rfl
        (clear h;refine Ae rfl ?_;go_simp;exact ⟨Below.refl _ _,rfl⟩)
       ·obtain rfl:=h 9 rfl
        (clear h;refine Ae rfl ?_;obtain ⟨hc,hf⟩:=hC.facts;go_simp;exact ⟨Below.refl _ _,rfl⟩)
       ·(clear h;refine Ae rfl ?_;go_simp;exact ⟨Below.refl _ _,rfl⟩)
       ·(clear h;refine Ae rfl ?_;go_simp;exact ⟨Below.refl _ _,rfl⟩)
       ·obtain rfl:=h 12 rfl
        (clear h;refine Ae rfl ?_;obtain ⟨hc,hf⟩:=hC.facts;go_simp;exact ⟨Below.refl _ _,rfl⟩)
       ·obtain rfl:=h 13 rfl
        (clear h;refine Ae rfl ?_;go_simp;refine (FO.out _).mono ?_;rintro e w1 ⟨rfl,hb⟩;exact ⟨_,rfl,hb,rfl⟩)
       ·obtain rfl:=h 11 rfl
        obtain rfl:=h 14 rfl
        (clear h;refine Ae rfl ?_;go_simp;refine (CE.out _).mono ?_;rintro e w1 ⟨rfl,hb⟩;exact ⟨_,rfl,hb,rfl⟩)
       ·obtain rfl:=h 15 rfl
        (clear h;refine Ae rfl ?_;go_simp;exact ⟨(Below.refl _ _).alloc (Nat.le_refl _) _,_,rfl,Has.new _ _ _,hC.bel.size⟩)
      case hend =>
      intro us wx hus hC
      obtain ⟨u0,u1,u2,u3,u4,u5,u6,u7,u8,u9,u10,u11,u12,u13,u14,u15,u16,rfl⟩:∃ u0 u1 u2 u3 u4 u5 u6 u7 u8 u9 u10 u11 u12 u13 u14 u15 u16,us=[u0,u1,u2,u3,u4,u5,u6,u7,u8,u9,u10,u11,u12,u13,u14,u15,u16]:=by
       match us,hus with
       | [u0,u1,u2,u3,u4,u5,u6,u7,u8,u9,u10,u11,u12,u13,u14,u15,u16],_=>exact ⟨u0,u1,u2,u3,u4,u5,u6,u7,u8,u9,u10,u11,u12,u13,u14,u15,u16,rfl⟩
      clear hus;intro hall;obtain ⟨h0,h1,h2,h3,h4,h5,h6,h7,h8,h9,h10,h11,h12,h13,h14,h15,h16,_⟩:=hall;obtain ⟨gc,rfl,hgc,glo⟩:=h16;obtain rfl:=h0;obtain rfl:=h6;obtain rfl:=h10;have P10:=Ac (P9.out.below hC.bel);have M10:=Ac (M9.out.below hC.bel);have U10:=Ac (U9.out.next hC.bel);have PA10:=Ac (PA9.out.below hC.bel);have HS10:=Ac (HS5.out.below hC.bel);have SU10:=Ac (SU.out.below hC.bel)
      have INS:=Ac (Nb (i:=ui) HS10.out.row HUC.out.2.2.2.2.1 hgc (fun e=>by have:=(HS5.out.row.lt gc e).2;omega) (by omega) (Nat.zero_le _))
      clear h1 h2 h3 h4 h5 h7 h8 h9 h11 h12 h13 h14 h15 hC hgc glo p0 p1 p2 p3 p4 pz e9 ez FO CE P9 M9 U9 PA9 HS5 SU NR9;simp only [Bq,Act.put,List.take_succ_cons,List.take_zero,List.drop_succ_cons,List.drop_zero,List.setIfInBounds_toArray,List.set_cons_zero,List.set_cons_succ]
      go_wp2_with (go_at_call 53;(with_reducible refine INS.out.mono ?_);rintro en w11 ⟨v11,rfl,ho11,hg11,hat11⟩;obtain ⟨A11,c11,rfl,hc11⟩:=Bd ho11;have HO11:=Ac ho11;have HG11:=Ac hg11;have HA11:=Ac hat11;have nru:=Ac (show Has w11 pb 122 cu1 from (hg11.block pb HS10.out.hb.lt (fun e=>(HS10.out.rx pb e.symm).2 rfl)).trans HS10.out.hb);clear ho11 hg11 hat11;have pf:=nru.out.frozen;have pz:=nru.out.lt;have p3:w11.cell? ⟨pb,m*5+3,none⟩=some (.slice au.1 uc.length au.2):=(nru.out.cell _).trans HS10.out.c3)
      have hsn:=Q13.out;have hbw:w0.heap.size≤wx.heap.size:=U10.out.size;have PA10':=PA10.out;rw [← hsn] at PA10'
      have e11:∀ g,(Value.slice A11 (uc.length+1) c11).ownBlock=some g→some g∉X9∧g≠pb:=fun g hg=>by
       rcases HA11.out with e | e
       ·exact HS10.out.rx g (by rw [← e];exact hg)
       ·have e5:g=wx.heap.size:=Option.some.inj (hg.symm.trans e)
        exact ⟨fun hm=>by have:=P10.out.lt g hm;omega,by have:=HS10.out.hb.lt;omega⟩
      have hat11:∀ g,(Value.slice A11 (uc.length+1) c11).ownBlock=some g→(Value.slice au.1 uc.length au.2).ownBlock=some g∨wx.heap.size≤g:=fun g hg=>by
       rcases HA11.out with e | e
       ·exact .inl (by rw [← e];exact hg)
       ·have e5:g=wx.heap.size:=Option.some.inj (hg.symm.trans e)
        exact .inr (by omega)
      have hsz11:m*5+3<cu1.size:=by have:=HCZ1.out;have:=HNN.out;have:=LD.out;omega
      have st11:=HS10.out.put nru.out hsz11 HO11.out e11;have tu11:=Vz (pb:=pb) (v':=.slice A11 (uc.length+1) c11) (Turn.refl X9 wx) HG11.out hat11 (m*5+3) (.slice A11 (uc.length+1) c11)
      have rge:∀ g,(Value.slice au.1 uc.length au.2).ownBlock=some g→w0.heap.size≤g:=fun g hg=>(PA10.out.rows.lt au (List.mem_of_getElem? HAU.out) g (by
       rw [← hg];have q:=(Gf (upS u) au).symm
       have e:slV (upS u) au = .slice au.1 uc.length au.2:=by rw [← HUC.out.1];rfl
       rw [e] at q;exact q)).1
      have pge:w0.heap.size≤pb:=(PA10.out.own.lt pb rfl).1;have tbl:=HCK.out.2.2.2.2.1
      have M12:TM (w11.setCell ⟨pb,m*5+3,none⟩ (.slice A11 (uc.length+1) c11)) X9 tb p root:=(M10.out.grown HG11.out (fun e=>by have:=rge tb e.symm;omega)).set (by omega) _ _
      have P12:PT (w11.setCell ⟨pb,m*5+3,none⟩ (.slice A11 (uc.length+1) c11)) X9 p ((Sr.alloc.set x.n (2,l,cl)).set mN (2,l2,cr)) S0 (c+6*(Ds.length+1)) (k+10*(Ds.length+1)):=((P10.out.grown HG11.out (fun g hg=>(HS10.out.rx g hg).1)).set HS10.out.nb _ _).more (by omega) (by omega)
      have U12:Turn X0 X9 w0 (w11.setCell ⟨pb,m*5+3,none⟩ (.slice A11 (uc.length+1) c11)):=U10.out.loc tu11 (fun g hg=>by
       rcases List.mem_cons.1 hg with e | hg
       ·exact .inr (by have:g=pb:=Option.some.inj e;omega)
       ·rcases List.mem_cons.1 hg with e | hg
        ·exact .inr (rge g e.symm)
        ·exact .inl hg) (fun g hg=>List.mem_cons_of_mem _ (List.mem_cons_of_mem _ hg))
      obtain ⟨cells',hcl'⟩:∃ l,uc.take ui++CB :: uc.drop ui=l:=⟨_,rfl⟩
      have hll:cells'.length=uc.length+1:=by
       rw [← hcl',List.length_append,List.length_take,List.length_cons,List.length_drop];have:=HUC.out.2.2.2.2.1;omega
      rw [hcl'] at st11;rw [← hll] at st11 tu11 hat11 M12 P12 U12 ⊢
      have st12:Ji (w11.setCell ⟨pb,m*5+3,none⟩ (.slice A11 cells'.length c11)) X9 pb (5*m) u.y.n 2 (Dz (u.y.its.headD ⟨[],[]⟩).r) u.U.length cells'.length c11 A11 (cu1.setIfInBounds (5*m+3) (.slice A11 cells'.length c11)) cells':=by
       rw [HUC.out.2.1,HUC.out.2.2.1,Nat.mul_comm 5 m];exact st11
      have tu12:Turn (some pb :: (Value.slice au.1 ((u.y.its.drop 1).map Af).length au.2).ownBlock :: X9) (some pb :: (Value.slice A11 cells'.length c11).ownBlock :: X9) wx (w11.setCell ⟨pb,m*5+3,none⟩ (.slice A11 cells'.length c11)):=by rw [HUC.out.1];exact tu11
      have hat12:∀ g,(Value.slice A11 cells'.length c11).ownBlock=some g→(Value.slice au.1 ((u.y.its.drop 1).map Af).length au.2).ownBlock=some g∨wx.heap.size≤g:=by rw [HUC.out.1];exact hat11
      have PA12:=PA10'.back (j:=m) (n:=u.y.n) (kd:=2) (l:=Dz (u.y.its.headD ⟨[],[]⟩).r) (i:=u.U.length) (cells:=(u.y.its.drop 1).map Af) (A:=au.1) (c:=au.2) T1.out HAU.out rfl st12 SU10.out tu12 hat12 hbw;rw [hsn] at PA12
      have sp:=PD1.out.split (G':=_) HU1.out (m:=mN) (fun hm=>(OTH.out mN hm).1 rfl) ESX.out.1 ESX.out.2.1 rfl
      rw [EP1.out mN,EP2.out mN] at sp;have FIN:=Ac (And.intro M12 (And.intro P12 (And.intro U12 (And.intro PA12 (And.intro sp hcl')))));clear M12 P12 U12 PA12 sp hcl' st11 st12 tu11 tu12 hat11 hat12 e11 PA10' rge
      go_roundg (m+1)
      case rel =>
       have eY:=ESX.out.2.1;have eX:=ESX.out.1
       have hits:x.its=X1++y :: Y:=by rw [← eX,← eY,List.take_append_drop]
       have hyi:=HUC.out.2.2.2.2.2
       refine ⟨(Sr.alloc.set x.n (2,l,cl)).set mN (2,l2,cr),(A++[(⟨x.n,x.lo,X1⟩:Nd),⟨mN,y.k,y :: Y⟩]++B) :: Ds,u.A,⟨u.y.n,u.y.lo,u.U++([⟨x.lo,Ak x.n⟩,⟨y.k,Ak mN⟩]:List It)++u.V⟩,u.B,r,_,_,X9,u.U.length,m,HNR.out,rfl,rfl,FIN.out.2.2.2.2.1.1, ?_, ?_,FIN.out.2.1,FIN.out.1,FIN.out.2.2.1,FIN.out.2.2.2.1, ?_, ?_, ?_, ?_⟩
       ·refine Eq.trans ?_ Q4.out
        show Ig (A++[_,_]++B) Ds=_
        cases Ds with
        | nil =>
          show (A++[(⟨x.n,x.lo,X1⟩:Nd),⟨mN,y.k,y :: Y⟩]++B).flatMap (fun x:Nd=>x.its)=(A++x :: B).flatMap (fun x:Nd=>x.its)
          have e:([(⟨x.n,x.lo,X1⟩:Nd),⟨mN,y.k,y :: Y⟩]:List Nd).flatMap (fun x:Nd=>x.its)=x.its:=by
           simp only [List.flatMap_cons,List.flatMap_nil,List.append_nil];exact hits.symm
          rw [List.flatMap_append,List.flatMap_append,e,List.flatMap_append,List.flatMap_cons,List.append_assoc]
        | cons D t=>rfl
       ·refine Q5.out.trans ?_
        have m1:=Mv.alloc OKF.out (Eh (A++x :: B) Ds (u :: r));rw [HMN.out] at m1
        refine ((m1.trans (Mv.set (n:=x.n) (List.mem_cons_of_mem _ (List.mem_append_left _ (Bg (by simp) Ds))) _)).trans (Mv.set (n:=mN) List.mem_cons_self _)).perm (List.Perm.refl _) ?_
        refine FIN.out.2.2.2.2.1.2.trans ?_
        exact List.perm_append_comm
       ·rw [List.take_set,List.take_add_one,T1.out,T2.out]
        show (Gw r++[upS u]).set m _=_
        rw [List.set_append_right _ _ (by rw [Ce,HNR.out];exact Nat.le_refl _),Ce,HNR.out,Nat.sub_self]
        show Gw r++[(⟨u.y.n,(2,Dz (u.y.its.headD ⟨[],[]⟩).r,cells'),u.U.length⟩:Stp)]=Gw r++[⟨u.y.n,Yr ⟨u.y.n,u.y.lo,u.U++([⟨x.lo,Ak x.n⟩,⟨y.k,Ak mN⟩]:List It)++u.V⟩,u.U.length⟩]
        unfold Yr
        have c1:cells'=((u.U++([⟨x.lo,Ak x.n⟩,⟨y.k,Ak mN⟩]:List It)++u.V).drop 1).map Af:=by
         rw [← FIN.out.2.2.2.2.2,← HUC.out.1,← HUC.out.2.2.1,← HCB.out,hyi];exact KE0 _
        have c2:Dz (u.y.its.headD ⟨[],[]⟩).r=Dz ((u.U++([⟨x.lo,Ak x.n⟩,⟨y.k,Ak mN⟩]:List It)++u.V).headD ⟨[],[]⟩).r:=by
         rw [hyi];cases u.U <;> rfl
        rw [c1,c2]
       ·have:=LD.out;simp only [List.length_cons];omega
       ·have:=Q12.out;have:=AL.out;simp only [List.length_cons];show Sr.alloc.q≤_;omega
       ·rw [List.length_set];exact hsn
      case measure=>have:=Q1.out;omega
    ·have u1:¬ (1012:Int)<(us:Int):=by omega
     by_cases h2:us<180
     ·have u2:(us:Int)<180:=by omega
      have hlow:Ai (body Ds.isEmpty x.its)<180:=by have:=HTU.out;omega
      have B1:=Ac ((Below.refl W1.heap.size W1).drew);obtain ⟨pb',cap',cu1,au,e1,hau,hbp,hcz,su⟩:=(PA1.out.below B1.out).step T1.out
      have e2:pb=pb'∧cap=cap':=by
       injection e1 with e1 e4 e3
       injection e1 with e1
       injection e1 with e1
       exact ⟨e1,e3⟩
      obtain ⟨rfl,rfl⟩:=e2;have SU:=Ac su;have su5:=su;rw [Nat.mul_comm 5 m] at su5;have HU5:UpM W1.drew X' pb (m*5) u.y.n (Dz (u.y.its.headD ⟨[],[]⟩).r) u.U.length ((u.y.its.drop 1).map Af).length au.2 au.1 cu1 ((u.y.its.drop 1).map Af):=su5.up
      have ux0:∀ q,a.1=some q→some q.block∉X'∧q.block<W1.drew.heap.size:=fun q hq=>by
       have hq2:(Value.slice a.1 pg.2.2.length a.2).ownBlock=some q.block:=by rw [hq];rfl
       exact ⟨(ST1.out.rx q.block hq2).1,(ST1.out.row.lt q.block hq2).2⟩
      have JN:=KA0 (c0:=a.2) (P1.out.below B1.out) (M1.out.below B1.out) (by have:=HCK.out;have:=LD.out;omega) (by have:=HCK.out;have:=LD.out;omega) Q3.out hlow OWN.out HU5 (by omega) (by have:=Q13.out;have:=HNN.out;have:=LD.out;omega) (by rw [HPG.out];exact (ST1.out.below B1.out).ss) ux0
      rw [HPG.out] at JN;have HJN:=Ac JN;have HAU:=Ac hau;clear JN su su5 HU5 e1 hau hbp hcz ux0 hlow HTU
      have wu:IntKind.i64.wrap (m:Int)=(m:Int):=IntWalk.i64_in _ ⟨by omega,by omega⟩
      have i2:(m:Int)<(N:Int):=by omega
      go_wp2_with fail
      go_still_tail 6,(by kernel_rfl)
      change wpList _ _ _ _ _ W1.drew
      clear wu
      go_wp2_with (go_at_call 145;(with_reducible refine HJN.out.mono ?_);rintro en w2 ⟨S2,Ds2,y2,pd2,⟨dl2,sq2⟩,yn2,yh2,lf2,mv2,rfl,X2,Au2,cu2,hp2,ht2,hu2,hat2⟩;have PD2:=Ac pd2;have DL2:=Ac (And.intro dl2 sq2);have YN2:=Ac (And.intro yn2 yh2);have LF2:=Ac lf2;have MV2:=Ac mv2;have HP2:=Ac hp2;have HT2:=Ac ht2;have HU2:=Ac hu2;have HAT2:=Ac hat2;clear pd2 dl2 sq2 yn2 yh2 lf2 mv2 hp2 ht2 hu2 hat2)
      have PA2:=(PA1.out.below B1.out);have hsn:=Q13.out;rw [← hsn] at PA2;have up2:=HU2.out.step;rw [Nat.mul_comm m 5] at up2;have hbw:w0.heap.size≤W1.drew.heap.size:=Nat.le_trans U1.out.size (Nat.le_refl _);have PA3:=PA2.back (j:=m) (n:=u.y.n) (kd:=2) (l:=Dz (u.y.its.headD ⟨[],[]⟩).r) (i:=u.U.length) (cells:=(u.y.its.drop 1).map Af) (A:=au.1) (c:=au.2) T1.out HAU.out rfl up2 SU.out HT2.out HAT2.out hbw
      rw [hsn] at PA3
      go_roundg (m+1)
      case rel =>
       have hml:m<ss.length:=by rw [hsn];have:=HNN.out;have:=LD.out;omega
       have pge:w0.heap.size≤pb:=(PA1.out.own.lt pb rfl).1
       have rge:∀ g,(Value.slice au.1 ((u.y.its.drop 1).map Af).length au.2).ownBlock=some g→w0.heap.size≤g:=fun g hg=>(PA1.out.rows.lt au (List.mem_of_getElem? HAU.out) g (by rw [← hg];exact (Gf (upS u) au).symm)).1
       have tnot:some tb∉(some pb :: (Value.slice au.1 ((u.y.its.drop 1).map Af).length au.2).ownBlock :: X'):=fun hm=>by
        have ht0:=HCK.out.2.2.2.2.1
        rcases List.mem_cons.1 hm with e | hm
        ·have:tb=pb:=Option.some.inj e;omega
        ·rcases List.mem_cons.1 hm with e | hm
         ·have:=rge tb e.symm;omega
         ·exact M1.out.out hm
       have eiso:Ds2.isEmpty=false:=by cases Ds2 with | nil=>have:=DL2.out.1;simp at this | cons _ _=>rfl
       refine ⟨S2,Ds2,u.A,y2,u.B,r,_,_,X2,u.U.length,m,HNR.out,rfl,rfl,PD2.out,LF2.out.trans Q4.out,Q5.out.trans MV2.out,HP2.out.more (by have:=DL2.out;omega) (by have:=DL2.out;omega), ?_, ?_,PA3, ?_, ?_, ?_, ?_⟩
       ·exact ⟨HT2.out.has (M1.out.below B1.out).has tnot,fun hm=>HT2.out.out tnot (M1.out.below B1.out).has.lt (List.mem_cons_of_mem _ (List.mem_cons_of_mem _ hm))⟩
       ·exact (U1.out.next B1.out).loc HT2.out (fun g hg=>by
         rcases List.mem_cons.1 hg with e | hg
         ·exact .inr (by have:g=pb:=Option.some.inj e;omega)
         ·rcases List.mem_cons.1 hg with e | hg
          ·exact .inr (rge g e.symm)
          ·exact .inl hg) (fun g hg=>List.mem_cons_of_mem _ (List.mem_cons_of_mem _ hg))
       ·rw [List.take_set,List.take_add_one,T1.out,T2.out]
        show (Gw r++[upS u]).set m _=_
        rw [List.set_append_right _ _ (by rw [Ce,HNR.out];exact Nat.le_refl _),Ce,HNR.out,Nat.sub_self,eiso,YN2.out.1]
        show Gw r++[(⟨u.y.n,(2,Dz (u.y.its.headD ⟨[],[]⟩).r,(y2.its.drop 1).map Af),u.U.length⟩:Stp)]=Gw r++[⟨u.y.n,Yr y2,u.U.length⟩]
        unfold Yr;rw [YN2.out.2]
       ·have:=DL2.out;have:=LD.out;omega
       ·have:=DL2.out;have:=Q12.out;omega
       ·rw [List.length_set];exact hsn
      case measure=>have:=Q1.out;omega
     ·have u2:¬ (us:Int)<180:=by omega
      have PS:=Ac (AI1 Q3.out (by have:=HTU.out;omega) (by have:=HTU.out;omega))
      have SV:=Ac (fun W (h:PT W X' p Sr S0 (c+6*Ds.length) (k+10*Ds.length)) (ht:TM W X' tb p root) (hs:SS W a.1 pg.2.2.length pg.2.2)=>Dp (n:=x.n) (cp:=a.2) (pg:=pg) h ht (by have:=HCK.out;have:=LD.out;omega) (by have:=HCK.out;have:=LD.out;omega) (OWN.out x.n (List.mem_append_left _ (Bg (by simp) Ds))).1 (OWN.out x.n (List.mem_append_left _ (Bg (by simp) Ds))).2.1 (OWN.out x.n (List.mem_append_left _ (Bg (by simp) Ds))).2.2 (by rw [← HPG.out];exact ⟨by have:=PL.out.2;omega,by have:=PL.out.2;omega,PL.out.1,by rw [Qj,Eg];have:=HTU.out;omega⟩) hs (by have:=NL2.out;omega))
      clear HTU
      go_wp2_with (go_at_call 46;(with_reducible refine (SV.out _ P1.out M1.out ST1.out.ss).mono ?_);rintro en w2 ⟨rfl,X2,hp2,ht2⟩;have FIN:=Ac (show BK0 X0 w0 p S S0 root (c+6*D+7) (k+10*D+11) (D+2) own0 L (.returned (.tuple #[])) w2 from by
       obtain ⟨x',Ds',q1,q2,q3⟩:=PS.out;rw [HPG.out] at q1 q3
       exact ⟨rfl,_,x',Ds',X2,hp2.more (by have:=LD.out;omega) (by have:=LD.out;omega),U1.out.trans ht2,q1,q2.trans Q4.out,Q5.out.trans q3,by have:=Q12.out;have:=LD.out;show Sr.q≤_;omega⟩);clear hp2 ht2)
      refine bodyPost_ret (results_none rfl _ _ _) rfl ?_
      exact FIN.out
end Go.Proofs.YtjihboddejaelaaGreat
namespace Go.Proofs.YtjihboddejaelaaGreat
open Go.RowKit Go.BigFrame
theorem Rl (e:Addr) (w:World):Calls Tryz.prog 44 #[Value.nilIface,.pointer (some e)] w fun e w'=>e = .returned (.tuple #[])∧w=w':=by
 go_enter Tryz.func44,Tryz.ntmps44
 go_wp2
 refine bodyPost_ret (results_none rfl _ _ _) rfl ?_
 exact ⟨rfl,rfl⟩
theorem Ov (e:Addr) (w:World):CallsD Tryz.prog 47 #[.pointer (some e)] .returning w fun en u' w'=>en = .returned (.tuple #[])∧u' = .returning∧w'=w:=by
 refine callsD_of_wpS Tryz.func47 rfl fun c₀ cs hu=>?_
 apply wpS_region
 simp [wpOpsS,go_sem,recoverD,hu,Tryz.ntmps47,Exit.thenS]
 refine (Rl e w).mono ?_
 rintro en w' ⟨rfl,rfl⟩
 cases c₀
 simp_all [bodyPostS,results,Tryz.results47]
theorem Ol (e:Addr) (w:World):CallsD Tryz.prog 55 #[.pointer (some e)] .returning w fun en u' w'=>en = .returned (.tuple #[])∧u' = .returning∧w'=w:=by
 refine callsD_of_wpS Tryz.func55 rfl fun c₀ cs hu=>?_
 apply wpS_region
 simp [wpOpsS,go_sem,recoverD,hu,Tryz.ntmps55,Exit.thenS]
 refine (Rl e w).mono ?_
 rintro en w' ⟨rfl,rfl⟩
 cases c₀
 simp_all [bodyPostS,results,Tryz.results55]
theorem CW0 (e:Addr) (w:World):CallsD Tryz.prog 43 #[.pointer (some e)] .returning w fun en u' w'=>en = .returned (.tuple #[])∧u' = .returning∧w'=w:=by
 refine callsD_of_wpS Tryz.func43 rfl fun c₀ cs hu=>?_
 apply wpS_region
 simp [wpOpsS,go_sem,recoverD,hu,Tryz.ntmps43,Exit.thenS]
 refine (Rl e w).mono ?_
 rintro en w' ⟨rfl,rfl⟩
 cases c₀
 simp_all [bodyPostS,results,Tryz.results43]
theorem JG0 (e:Addr) (w:World):CallsD Tryz.prog 60 #[.pointer (some e)] .returning w fun en u' w'=>en = .returned (.tuple #[])∧u' = .returning∧w'=w:=by
 refine callsD_of_wpS Tryz.func60 rfl fun c₀ cs hu=>?_
 apply wpS_region
 simp [wpOpsS,go_sem,recoverD,hu,Tryz.ntmps60,Exit.thenS]
 refine (Rl e w).mono ?_
 rintro en w' ⟨rfl,rfl⟩
 cases c₀
 simp_all [bodyPostS,results,Tryz.results60]
def DG1 (X:List (Option Nat)) (w:World) (p:Nat) (S S0:St) (c k:Nat) (key v:Ky) (en:Ending) (w':World):Prop :=
 ∃ it S' ps X',en = .returned (.string (Af it))∧it.k=key∧ItV S'.G it v ps∧Mv S S' [] ps∧ps.length≤3∧S'.q≤S.q+3∧PT w' X' p S' S0 (c+9) (k+15)∧Turn X X' w w'
theorem LC0:∀ (j:Nat) (S:St) (v:Ky),(Yp j S v).length≤j+1
 | 0,_,_=>by simp [Yp]
 | j+1,S,v=>by
   unfold Yp
   split
   ·have:=LC0 j S.alloc (v.drop 1008);rw [List.length_cons];omega
   ·simp
theorem TX0 {w:World} {X:List (Option Nat)} {tb p root c k:Nat} {S S0:St} {key v:Ky} (h:PT w X p S S0 c k) (ht:TM w X tb p root) (hc:c+9≤60000) (hk:k≤700000000) (hq:S.q≤50000) (hkey:key.length≤200) (hv:v.length≤3000) :
 Calls Tryz.prog 50 #[.pointer (some ⟨tb,0,none⟩),.string (bsK key),.string (bsK v)] w (DG1 X w p S S0 c k key v):=by
 by_cases hz:2+key.length+v.length≤240
 ·refine (AU0 hz hkey).mono ?_
  rintro en w' ⟨rfl,hb⟩
  exact ⟨⟨key,Pi v⟩,S,[],X,rfl,rfl,.inl ⟨rfl,hz,rfl⟩,Mv.refl _ _,by simp,by omega,(h.below hb).more (by omega) (by omega),Turn.below X hb⟩
 ·refine (CF0 h ht hc hk hq hkey (by omega) hv).mono ?_
  rintro en w' ⟨rfl,X',hp,htu⟩
  have m:=Mv.more 2 (v:=v) h.ok (by omega) (by omega) []
  rw [List.append_nil] at m;have hd:=RA0 2 S v
  refine ⟨⟨key,Jp v.length S.Ah⟩,_,Yp 2 S v,X',rfl,rfl,.inr ⟨by rw [hd.1],by show 240<2+key.length+v.length;omega,hv,hd.2,QJ0 2 h.ok (by omega) (by omega) ?_⟩,m,LC0 2 S v,(NT0 2 h.ok (by omega) (by omega)).q2,hp,htu⟩
  intro e;rw [e] at hz;simp at hz;omega
theorem Ic:∀ (ps:List Nat) (S:St),(Ba S ps).q=S.q
 | [],_=>rfl
 | x :: ps,S=>Ic ps (S.free x)
theorem AL0 {w:World} {X:List (Option Nat)} {tb p root c k:Nat} {S S0:St} {it:It} {v:Ky} {ps:List Nat} (h:PT w X p S S0 c k) (ht:TM w X tb p root) (hc:c+6≤60000) (hk:k≤700000000) (hkey:it.k.length≤200) (hi:ItV S.G it v ps) (h3:ps.length≤3) (hn:ps.Nodup) (hr:∀ x∈ps,0<x∧x<S.q∧x∉S.fr) :
 Calls Tryz.prog 52 #[.pointer (some ⟨tb,0,none⟩),.string (Af it)] w (Hw X w p (Ba S ps) S0 (c+6) (k+12) (.tuple #[])):=by
 obtain ⟨key,r⟩:=it
 rcases hi with ⟨a,b,rfl⟩ | ⟨a,b,hv,d,e⟩
 ·dsimp only at a;subst a
  refine (Ph hkey (by omega)).mono ?_
  rintro en w' ⟨rfl,rfl⟩
  exact ⟨rfl,X,h.more (by omega) (by omega),Turn.refl _ _⟩
 ·dsimp only at a;subst a
  refine (Ql h ht (by omega) (by omega) hkey ⟨CI0 e,hn,hr⟩ d).mono ?_
  rintro en w' ⟨rfl,X',hp,htu⟩
  exact ⟨rfl,X',hp.more (by omega) (by omega),htu⟩
end Go.Proofs.YtjihboddejaelaaGreat
namespace Go.Proofs.YtjihboddejaelaaGreat
open Go.RowKit
theorem Mc.IV0 {G:Nat→Pg} {l:List It} {E:List En} {P:List (List Nat)} (h:Mc G l E P):∀ e∈E,∃ i∈l,i.k=e.1:=fun e he=>by
 have h1:e.1∈E.map (·.1):=List.mem_map_of_mem he
 rw [h.keys] at h1;obtain ⟨i,hi,e2⟩:=List.mem_map.1 h1;exact ⟨i,hi,e2⟩
theorem Mc.cons {G:Nat→Pg} {i:It} {l:List It} {E:List En} {P:List (List Nat)} (h:Mc G (i :: l) E P):∃ v E2 ps P2,E=(i.k,v) :: E2∧P=ps :: P2∧ItV G i v ps∧Mc G l E2 P2:=by
 cases E with
 | nil=>cases P <;> exact h.elim
 | cons e E2 =>
   cases P with
   | nil=>exact h.elim
   | cons ps P2=>exact ⟨e.2,E2,ps,P2,by rw [h.1],rfl,h.2.1,h.2.2⟩
section
variable {G:Nat→Pg} {root:Nat} {A B:List Nd} {x:Nd} {key:Ky} {i:Nat} {E:List En} {P:List (List Nat)}
theorem NQ0 (h:Dwn G 0 root (A++x :: B) []) (ak:At key A x B) (hi:cnt key false x.its=i) (hl:i<x.its.length) (hk:leK key x.its[i].k):∀ e∈x.its.drop (i+1),ltK key e.k:=fun e he=>by
 have ho:Wu (A++x :: B):=Dwn.ord h
 have hs:=(ho.2 x (by simp)).1
 rw [← List.take_append_drop i x.its,List.drop_eq_getElem_cons hl] at hs;exact DK0 hk ((List.pairwise_cons.1 (List.pairwise_append.1 hs).2.1).1 e he)
theorem QH0 (h:Dwn G 0 root (A++x :: B) []) (ak:At key A x B) (hi:cnt key false x.its=i) (hl:i<x.its.length) (hk:x.its[i].k=key) (he:Mc G (Ig (A++x :: B) []) E P) :
 ∃ E1 u E2 P1 q P2,E=E1++(key,u) :: E2∧P=P1++q :: P2∧Mc G (A.flatMap (·.its)++x.its.take i) E1 P1∧ItV G x.its[i] u q∧Mc G (x.its.drop (i+1)++B.flatMap (·.its)) E2 P2∧(∀ e∈E1,ltK e.1 key)∧∀ e∈E2,ltK key e.1:=by
 obtain ⟨k1,k2,k3⟩:=ID0 h ak;rw [hi] at k1 k2
 have e0:Ig (A++x :: B) []=(A.flatMap (·.its)++x.its.take i)++(x.its[i] :: (x.its.drop (i+1)++B.flatMap (·.its))):=by
  show (A++x :: B).flatMap (·.its)=_
  have e1:x.its=x.its.take i++(x.its[i] :: x.its.drop (i+1)):=by rw [← List.drop_eq_getElem_cons hl,List.take_append_drop]
  rw [List.flatMap_append,List.flatMap_cons]
  generalize x.its.take i=U at *
  generalize x.its.drop (i+1)=V at *
  generalize x.its[i]=y at *
  rw [e1];simp
 rw [e0] at he;obtain ⟨E1,E',P1,P',rfl,rfl,h1,h2⟩:=he.split;obtain ⟨u,E2,q,P2,rfl,rfl,h3,h4⟩:=h2.cons;rw [hk]
 refine ⟨E1,u,E2,P1,q,P2,rfl,rfl,h1,h3,h4,fun e he=>?_,fun e he=>?_⟩
 ·obtain ⟨j,hj,e2⟩:=h1.IV0 e he
  rw [← e2];exact k1 j hj
 ·obtain ⟨j,hj,e2⟩:=h4.IV0 e he
  rw [← e2]
  rcases List.mem_append.1 hj with hj | hj
  ·exact NQ0 h ak hi hl (by rw [hk];exact Qs _) j hj
  ·exact k3 j hj
theorem BO0 (h:Dwn G 0 root (A++x :: B) []) (ak:At key A x B) (hi:cnt key false x.its=i) (hk:∀ hl:i<x.its.length,¬ x.its[i].k=key) (he:Mc G (Ig (A++x :: B) []) E P) :
 ∃ E1 E2 P1 P2,E=E1++E2∧P=P1++P2∧Mc G (A.flatMap (·.its)++x.its.take i) E1 P1∧Mc G (x.its.drop i++B.flatMap (·.its)) E2 P2∧(∀ e∈E1,ltK e.1 key)∧(∀ e∈E2,ltK key e.1)∧∀ e∈x.its.drop i,ltK key e.k:=by
 obtain ⟨k1,k2,k3⟩:=ID0 h ak;rw [hi] at k1 k2
 have kd:∀ e∈x.its.drop i,ltK key e.k:=fun e he=>by
  by_cases hl:i<x.its.length
  ·rw [List.drop_eq_getElem_cons hl] at he k2
   have h1:=k2 x.its[i] List.mem_cons_self
   rcases List.mem_cons.1 he with rfl | he
   ·exact (Xx h1).elim id fun e=>absurd e.symm (hk hl)
   ·exact NQ0 h ak hi hl h1 e he
  ·rw [List.drop_of_length_le (by omega)] at he;cases he
 have e0:Ig (A++x :: B) []=(A.flatMap (·.its)++x.its.take i)++(x.its.drop i++B.flatMap (·.its)):=by
  show (A++x :: B).flatMap (·.its)=_
  have e1:x.its=x.its.take i++x.its.drop i:=(List.take_append_drop i x.its).symm;rw [List.flatMap_append,List.flatMap_cons]
  generalize x.its.take i=U at *
  generalize x.its.drop i=V at *
  rw [e1];simp
 rw [e0] at he;obtain ⟨E1,E2,P1,P2,rfl,rfl,h1,h2⟩:=he.split
 refine ⟨E1,E2,P1,P2,rfl,rfl,h1,h2,fun e he=>?_,fun e he=>?_,kd⟩
 ·obtain ⟨j,hj,e2⟩:=h1.IV0 e he
  rw [← e2];exact k1 j hj
 ·obtain ⟨j,hj,e2⟩:=h2.IV0 e he
  rw [← e2]
  rcases List.mem_append.1 hj with hj | hj
  ·exact kd j hj
  ·exact k3 j hj
theorem GW0 {ups:List UpR} {j:Nat} {it:It} (h:Dwn G 0 root (A++x :: B) []) (k:Abv G 0 root A x B ups) (ak:At key A x B) (hi:cnt key false x.its=i) (hj:i≤j) (nd:(Eh (A++x :: B) [] ups).Nodup) (n0:∀ p∈Eh (A++x :: B) [] ups,p≠0) (hik:it.k=key) (h1:1≤key.length∧key.length≤200) (hz:szI it≤244) (hg:∀ e∈x.its.drop j,ltK key e.k) :
 Pnd G root [] A ⟨x.n,x.lo,x.its.take i++it :: x.its.drop j⟩ B ups∧Eh (A++(⟨x.n,x.lo,x.its.take i++it :: x.its.drop j⟩:Nd) :: B) [] ups=Eh (A++x :: B) [] ups:=by
 have hlf:Hy G 0 root (A++x :: B):=h;have ho:Wu (A++x :: B):=Dwn.ord h;obtain ⟨k1,k2,k3⟩:=ID0 h ak;rw [hi] at k1
 have ku:∀ e∈x.its.take i,ltK e.k key:=fun e he=>k1 e (List.mem_append_right _ he)
 have hs:=ho.2 x (by simp)
 have hb:∀ b∈B,Bef x b:=(List.pairwise_cons.1 (Nh.1 ho).2.1.1).1
 have sub:∀ e∈x.its.take i++it :: x.its.drop j,e=it∨e∈x.its:=fun e he=>by
  rcases List.mem_append.1 he with he | he
  ·exact .inr (List.mem_of_mem_take he)
  ·rcases List.mem_cons.1 he with he | he
   ·exact .inl he
   ·exact .inr (List.mem_of_mem_drop he)
 refine QN0 h k nd n0 ?_ ?_ ?_ ?_ ?_
 ·refine List.pairwise_append.2 ⟨hs.1.sublist (List.take_sublist _ _),List.pairwise_cons.2 ⟨fun e he=>by rw [hik];exact hg e he,hs.1.sublist (List.drop_sublist _ _)⟩,fun a ha b hb2=>?_⟩
  rcases List.mem_cons.1 hb2 with rfl | hb2
  ·rw [hik];exact ku a ha
  ·exact Jo (ku a ha) (hg b hb2)
 ·intro e he
  rcases sub e he with rfl | he
  ·rw [hik];exact ak.lo
  ·exact hs.2 e he
 ·intro e he b hbm
  rcases sub e he with rfl | he
  ·rw [hik];exact ak.hi b hbm
  ·exact (hb b hbm).2 e he
 ·intro e he
  rcases sub e he with rfl | he
  ·exact ⟨by rw [hik];exact h1.1,by rw [hik];exact h1.2,hz⟩
  ·exact hlf.keys x (by simp) e he
 ·have hf:Ai x.its≤1012:=(hlf.fit x (by simp) (n0 x.n (List.mem_append_left _ (Bg (by simp) [])))).le
  have h2:Ai x.its=Ai (x.its.take j)+Ai (x.its.drop j):=by rw [← Dw,List.take_append_drop]
  have h3:x.its.take j=x.its.take i++(x.its.take j).drop i:=by
   conv=>lhs;rw [← List.take_append_drop i (x.its.take j)]
   rw [List.take_take,Nat.min_eq_left hj]
  rw [h3,Dw] at h2;rw [Dw,Df];omega
theorem YX0 {ups:List UpR} (h:Dwn G 0 root (A++x :: B) []) (k:Abv G 0 root A x B ups) (nd:(Eh (A++x :: B) [] ups).Nodup) (n0:∀ p∈Eh (A++x :: B) [] ups,p≠0) (i:Nat) :
 Pnd G root [] A ⟨x.n,x.lo,x.its.take i++x.its.drop (i+1)⟩ B ups∧Eh (A++(⟨x.n,x.lo,x.its.take i++x.its.drop (i+1)⟩:Nd) :: B) [] ups=Eh (A++x :: B) [] ups:=by
 have hlf:Hy G 0 root (A++x :: B):=h;have ho:Wu (A++x :: B):=Dwn.ord h
 have hs:=ho.2 x (by simp)
 have hb:∀ b∈B,Bef x b:=(List.pairwise_cons.1 (Nh.1 ho).2.1.1).1
 have hsub:(x.its.take i++x.its.drop (i+1)).Sublist x.its:=by
  rw [← List.eraseIdx_eq_take_drop_succ];exact List.eraseIdx_sublist _ _
 refine QN0 h k nd n0 (hs.1.sublist hsub) (fun e he=>hs.2 e (hsub.subset he)) (fun e he b hbm=>(hb b hbm).2 e (hsub.subset he)) (fun e he=>hlf.keys x (by simp) e (hsub.subset he)) ?_
 have hf:Ai x.its≤1012:=(hlf.fit x (by simp) (n0 x.n (List.mem_append_left _ (Bg (by simp) [])))).le
 have h2:Ai x.its=Ai (x.its.take (i+1))+Ai (x.its.drop (i+1)):=by rw [← Dw,List.take_append_drop]
 have h3:x.its.take (i+1)=x.its.take i++(x.its.take (i+1)).drop i:=by
  conv=>lhs;rw [← List.take_append_drop i (x.its.take (i+1))]
  rw [List.take_take,Nat.min_eq_left (by omega)]
 rw [h3,Dw] at h2;rw [Dw];omega
end
theorem Mv.stay {S S':St} {a b r:List Nat} (m:Mv S S' a b) (hn:(a++r++S.fr).Nodup) (hr:∀ x∈a++r++S.fr,0<x∧x<S.q) (h0:0<S.q):(∀ p∈r,S'.G p=S.G p)∧(b++r++S'.fr).Nodup∧(∀ x∈b++r++S'.fr,0<x∧x<S'.q)∧0<S'.q:=by
 obtain ⟨n1,n2⟩:=(m.frame r).nd hn hr
 refine ⟨fun p hp=>m.keep p (hr p (by simp [hp])).1 (hr p (by simp [hp])).2 (fun ha=>?_) (fun hf=>?_),n1,n2 h0,Nat.lt_of_lt_of_le h0 m.q⟩
 ·exact (List.nodup_append.1 (List.nodup_append.1 hn).1).2.2 p ha p hp rfl
 ·exact (List.nodup_append.1 hn).2.2 p (List.mem_append_right _ hp) p hf rfl
structure FV1 (S S2 S3:St) (Z F1 q F2 ps own:List Nat):Prop where
 g2:∀ p∈Z++(F1++q++F2),S2.G p=S.G p
 qn:q.Nodup
 qr:∀ p∈q,0<p∧p<S2.q∧p∉S2.fr
 g3:∀ p∈ps++Z++F1++F2,S3.G p=S2.G p
 n3:(Z++(F1++ps++F2)++S3.fr).Nodup
 r3:∀ p∈Z++(F1++ps++F2)++S3.fr,0<p∧p<S3.q
 p3:0<S3.q
 mv:Mv S S3 own (Z++(F1++ps++F2))
theorem HL0 {S S2:St} {root:Nat} {x0:Nd} {Ds0:List (List Nd)} {E:List En} {P:List (List Nat)} {Z F1 q F2 ps:List Nat} (ok:EM0 S) (hs:Qb S root x0 Ds0 E P) (hp:(Ei [x0] Ds0).Perm Z) (hf:P.flatten=F1++q++F2) (m2:Mv S S2 [] ps):FV1 S S2 (Ba S2 q) Z F1 q F2 ps (Ei [x0] Ds0++P.flatten):=by
 have hnd:=hs.nd;have hrg:=hs.rng;rw [hf] at hnd hrg ⊢;have pm0:(Z++(F1++q++F2)).Perm (Ei [x0] Ds0++(F1++q++F2)):=hp.symm.append_right _
 have n0:([]++(Z++(F1++q++F2))++S.fr).Nodup:=by
  rw [List.nil_append]
  refine List.nodup_append.2 ⟨pm0.nodup_iff.2 hnd,ok.nd,fun y hy z hz e=>?_⟩
  exact (hrg y (pm0.mem_iff.1 hy)).2.2 (e ▸ hz)
 have r0:∀ y∈[]++(Z++(F1++q++F2))++S.fr,0<y∧y<S.q:=fun y hy=>by
  rw [List.nil_append] at hy
  rcases List.mem_append.1 hy with hy | hy
  ·have:=hrg y (pm0.mem_iff.1 hy);exact ⟨this.1,this.2.1⟩
  ·exact ok.rng y hy
 obtain ⟨g2,n2,r2,p2⟩:=m2.stay n0 r0 ok.pos
 have m3:Mv S2 (Ba S2 q) q []:=by have:=Mv.Ba q (S:=S2) [];rwa [List.append_nil] at this
 have pm1:(q++(ps++Z++F1++F2)++S2.fr).Perm (ps++(Z++(F1++q++F2))++S2.fr):=List.perm_iff_count.2 fun y=>by simp only [List.count_append];omega
 have n2':=pm1.nodup_iff.2 n2
 have r2':=fun y (hy:y∈q++(ps++Z++F1++F2)++S2.fr)=>r2 y (pm1.mem_iff.1 hy)
 obtain ⟨g3,n3,r3,p3⟩:=m3.stay n2' r2' p2
 have pm2:(Z++(F1++ps++F2)++(Ba S2 q).fr).Perm ([]++(ps++Z++F1++F2)++(Ba S2 q).fr):=List.perm_iff_count.2 fun y=>by simp only [List.count_append,List.count_nil];omega
 refine ⟨g2,(List.nodup_append.1 (List.nodup_append.1 n2').1).1,fun y hy=>⟨(r2' y (by simp [hy])).1,(r2' y (by simp [hy])).2,fun hf=>(List.nodup_append.1 n2').2.2 y (List.mem_append_left _ hy) y hf rfl⟩,g3,pm2.nodup_iff.2 n3,fun y hy=>r3 y (pm2.mem_iff.1 hy),p3, ?_⟩
 refine ((m2.frame (Z++(F1++q++F2))).trans ((m3.frame (ps++Z++F1++F2)).perm ?_ (List.Perm.refl _))).perm pm0.symm ?_
 ·exact List.perm_iff_count.2 fun y=>by simp only [List.count_append];omega
 ·exact List.perm_iff_count.2 fun y=>by simp only [List.count_append,List.count_nil];omega
theorem BP0 {S S2 S3 S':St} {root:Nat} {x':Nd} {Ds':List (List Nd)} {Z q ps own:List Nat} {I1 I2 M:List It} {E1 E2 Em:List En} {P1 P2 Pm:List (List Nat)} (h:FV1 S S2 S3 Z P1.flatten q P2.flatten ps own) (m4:Mv S3 S' Z (Ei [x'] Ds')) (tr:Tre S'.G root x' Ds') (lf:Ig [x'] Ds'=I1++(M++I2)) (e1:Mc S.G I1 E1 P1) (e2:Mc S.G I2 E2 P2) (em:Mc S2.G M Em Pm) (hm:Pm.flatten=ps) :
 Qb S' root x' Ds' (E1++(Em++E2)) (P1++(Pm++P2))∧Mv S S' own (Ei [x'] Ds'++(P1++(Pm++P2)).flatten):=by
 obtain ⟨g4,n4,r4,p4⟩:=m4.stay h.n3 h.r3 h.p3
 have hfl:(P1++(Pm++P2)).flatten=P1.flatten++ps++P2.flatten:=by rw [List.flatten_append,List.flatten_append,hm,List.append_assoc]
 have gm:∀ y∈ps,S'.G y=S2.G y:=fun y hy=>(g4 y (by simp [hy])).trans (h.g3 y (by simp [hy]))
 have g1:∀ y∈P1.flatten,S'.G y=S.G y:=fun y hy=>((g4 y (List.mem_append_left _ (List.mem_append_left _ hy))).trans (h.g3 y (List.mem_append_left _ (List.mem_append_right _ hy)))).trans (h.g2 y (List.mem_append_right _ (List.mem_append_left _ (List.mem_append_left _ hy))))
 have g5:∀ y∈P2.flatten,S'.G y=S.G y:=fun y hy=>((g4 y (List.mem_append_right _ hy)).trans (h.g3 y (List.mem_append_right _ hy))).trans (h.g2 y (List.mem_append_right _ (List.mem_append_right _ hy)))
 rw [hfl]
 refine ⟨⟨tr, ?_, ?_, ?_⟩,h.mv.trans (m4.frame _)⟩
 ·rw [lf]
  exact (e1.congr g1).app ((em.congr (by rw [hm];exact gm)).app (e2.congr g5))
 ·rw [hfl];exact (List.nodup_append.1 n4).1
 ·rw [hfl]
  exact fun y hy=>⟨(r4 y (List.mem_append_left _ hy)).1,(r4 y (List.mem_append_left _ hy)).2,fun hf=>(List.nodup_append.1 n4).2.2 y hy y hf rfl⟩
def EO0 (R:Nat→List Nat→Prop):List Nat→List (List Nat)→Prop
 | [],[]=>True
 | a :: b,l :: ls=>R a l∧EO0 R b ls
 | _,_=>False
theorem EO0.split {R:Nat→List Nat→Prop}:∀ {a b:List Nat} {Ls:List (List Nat)},EO0 R (a++b) Ls→∃ La Lb,Ls=La++Lb∧EO0 R a La∧EO0 R b Lb
 | [],b,Ls,h=>⟨[],Ls,rfl,trivial,h⟩
 | x :: a,b,[],h=>h.elim
 | x :: a,b,l :: Ls,h=>by
   obtain ⟨La,Lb,rfl,h1,h2⟩:=EO0.split h.2;exact ⟨l :: La,Lb,rfl,⟨h.1,h1⟩,h2⟩
theorem EO0.mono {R R':Nat→List Nat→Prop}:∀ {a:List Nat} {Ls:List (List Nat)},EO0 R a Ls→(∀ n,∀ l∈Ls,R n l→R' n l)→EO0 R' a Ls
 | [],[],_,_=>trivial
 | [],_ :: _,h,_=>h.elim
 | _ :: _,[],h,_=>h.elim
 | x :: a,l :: Ls,h,hr=>⟨hr x l List.mem_cons_self h.1,EO0.mono h.2 fun n l hl=>hr n l (List.mem_cons_of_mem _ hl)⟩
def Sub (G:Nat→Pg):Nat→Nat→List Nat→Prop
 | 0,n,l=>∃ lk its E P,G n=(1,lk,its.map Af)∧Mc G its E P∧(∀ i∈its,MD0 i)∧(∀ ps∈P,ps.length≤3)∧l=P.flatten++[n]
 | d+1,n,l=>∃ its Ls,G n=(2,Dz (its.headD ⟨[],[]⟩).r,(its.drop 1).map Af)∧its≠[]∧(∀ i∈its,szI i≤244∧i.k.length≤200∧i.r.length=4)∧EO0 (Sub G d) (its.map fun i=>Dz i.r) Ls∧l=Ls.flatten++[n]
theorem Sub.congr {G G':Nat→Pg}:∀ {d n:Nat} {l:List Nat},Sub G d n l→(∀ p∈l,G' p=G p)→Sub G' d n l
 | 0,n,l,⟨lk,its,E,P,h1,h2,h3,h4,h5⟩,hc=>⟨lk,its,E,P,(hc n (by rw [h5];simp)).trans h1,h2.congr fun p hp=>hc p (by rw [h5];exact List.mem_append_left _ hp),h3,h4,h5⟩
 | d+1,n,l,⟨its,Ls,h1,h2,h3,h4,h5⟩,hc=>⟨its,Ls,(hc n (by rw [h5];simp)).trans h1,h2,h3,h4.mono fun m l' hl' hs=>Sub.congr hs fun p hp=>hc p (by rw [h5];exact List.mem_append_left _ (List.mem_flatten.2 ⟨l',hl',hp⟩)),h5⟩
section
variable {G:Nat→Pg} {root:Nat}
theorem QK0:∀ {L:List Nd} {m:Nat} {E:List En} {P:List (List Nat)},AS0 G 0 L m→(∀ x∈L,∀ i∈x.its,MD0 i)→(∀ x∈L,x.n≠0)→(∀ ps∈P,ps.length≤3)→Mc G (L.flatMap (·.its)) E P→∃ Ls,EO0 (Sub G 0) (L.map (·.n)) Ls∧Ls.flatten.Perm (L.map (·.n)++P.flatten)
 | [],m,E,P,_,_,_,_,he=>by
   have hl:=he.len.2;have:P=[]:=List.length_eq_zero_iff.1 hl;subst this;exact ⟨[],trivial,List.Perm.refl _⟩
 | x :: L,m,E,P,hp,hk,h0,h3,he=>by
   rw [List.flatMap_cons] at he;obtain ⟨E1,E2,P1,P2,rfl,rfl,h1,h2⟩:=he.split
   obtain ⟨Ls,a1,a2⟩:=QK0 hp.2 (fun y hy=>hk y (List.mem_cons_of_mem _ hy)) (fun y hy=>h0 y (List.mem_cons_of_mem _ hy)) (fun ps hps=>h3 ps (List.mem_append_right _ hps)) h2
   refine ⟨(P1.flatten++[x.n]) :: Ls,⟨⟨_,x.its,E1,P1,hp.1 (h0 x List.mem_cons_self),h1,hk x List.mem_cons_self,fun ps hps=>h3 ps (List.mem_append_left _ hps),rfl⟩,a1⟩, ?_⟩
   refine List.perm_iff_count.2 fun y=>?_
   have:=a2.count_eq y;simp only [List.flatten_cons,List.flatten_append,List.map_cons,List.count_append,List.count_cons,List.count_nil] at this ⊢;omega
theorem YR0 {d:Nat}:∀ {L:List Nd} {LsD:List (List Nat)},(∀ x∈L,G x.n=Yr x∧x.its≠[]∧∀ i∈x.its,szI i≤244∧i.k.length≤200∧i.r.length=4)→EO0 (Sub G d) ((L.flatMap (·.its)).map fun i=>Dz i.r) LsD→∃ Ls,EO0 (Sub G (d+1)) (L.map (·.n)) Ls∧Ls.flatten.Perm (L.map (·.n)++LsD.flatten)
 | [],LsD,_,h=>by
   cases LsD with
   | nil=>exact ⟨[],trivial,List.Perm.refl _⟩
   | cons a b=>exact h.elim
 | x :: L,LsD,hx,h=>by
   rw [List.flatMap_cons,List.map_append] at h;obtain ⟨La,Lb,rfl,h1,h2⟩:=h.split
   obtain ⟨Ls,a1,a2⟩:=YR0 (fun y hy=>hx y (List.mem_cons_of_mem _ hy)) h2
   obtain ⟨b1,b2,b3⟩:=hx x List.mem_cons_self
   refine ⟨(La.flatten++[x.n]) :: Ls,⟨⟨x.its,La,b1,b2,b3,h1,rfl⟩,a1⟩, ?_⟩
   refine List.perm_iff_count.2 fun y=>?_
   have:=a2.count_eq y;simp only [List.flatten_cons,List.flatten_append,List.map_cons,List.count_append,List.count_cons,List.count_nil] at this ⊢;omega
theorem WF0:∀ {Ds:List (List Nd)} {L:List Nd} {E:List En} {P:List (List Nat)},Dwn G 0 root L Ds→(∀ p∈Ei L Ds,p≠0∧p<65536)→(∀ ps∈P,ps.length≤3)→Mc G (Ig L Ds) E P→∃ Ls,EO0 (Sub G Ds.length) (L.map (·.n)) Ls∧Ls.flatten.Perm (Ei L Ds++P.flatten)
 | [],L,E,P,h,h0,h3,he=>QK0 (Hy.pages h) (Hy.keys h) (fun x hx=>(h0 x.n (List.mem_map_of_mem hx)).1) h3 he
 | D :: r,L,E,P,h,h0,h3,he=>by
   obtain ⟨Ls,a1,a2⟩:=WF0 (Ds:=r) h.2 (fun p hp=>h0 p (List.mem_append_right _ hp)) h3 he
   have e1:D.map (·.n)=(L.flatMap (·.its)).map fun i=>Dz i.r:=by
    rw [h.1.its,List.map_map]
    exact List.map_congr_left fun y hy=>(Du (by have:=(h0 y.n (List.mem_append_right _ (Bg hy r))).2;omega)).symm
   rw [e1] at a1
   obtain ⟨Ls2,b1,b2⟩:=YR0 (L:=L) (fun x hx=>⟨h.1.pages x hx (h0 x.n (List.mem_append_left _ (List.mem_map_of_mem hx))).1,fun e=>by have:=h.1.head x hx;rw [e] at this;simp at this,fun i hi=>by
    obtain ⟨c1,c2,c3⟩:=Dwn.sz (Ds:=D :: r) h hx hi
    exact ⟨c1,c2,c3 (by simp)⟩⟩) a1
   refine ⟨Ls2,b1, ?_⟩
   refine List.perm_iff_count.2 fun y=>?_
   have q1:=a2.count_eq y;have q2:=b2.count_eq y
   show List.count y Ls2.flatten=List.count y ((L.map (·.n)++Ei D r)++P.flatten)
   simp only [List.count_append] at q1 q2 ⊢;omega
end
theorem Ru (S:St) (a b:List Nat):Ba S (a++b)=Ba (Ba S a) b:=by unfold Ba;exact List.foldl_append
theorem BY0:∀ {l:List Nat} {S:St} {p:Nat},p≠0→p∉l→(Ba S l).G p=S.G p
 | [],_,_,_,_=>rfl
 | x :: l,S,p,h0,hp=>by
   have:(Ba (S.free x) l).G p=(S.free x).G p:=BY0 h0 fun hm=>hp (List.mem_cons_of_mem _ hm)
   exact this.trans ((Aq h0).trans (Aq fun e=>hp (by rw [e];exact List.mem_cons_self)))
theorem Qk:∀ {l:List Nat} {S:St} {p:Nat},p∈(Ba S l).fr→p∈l∨p∈S.fr
 | [],_,_,h=>.inr h
 | x :: l,S,p,h=>by
   rcases Qk (l:=l) (S:=S.free x) h with h | h
   ·exact .inl (List.mem_cons_of_mem _ h)
   ·rcases List.mem_cons.1 h with h | h
    ·exact .inl (by rw [h];exact List.mem_cons_self)
    ·exact .inr h
end Go.Proofs.YtjihboddejaelaaGreat
