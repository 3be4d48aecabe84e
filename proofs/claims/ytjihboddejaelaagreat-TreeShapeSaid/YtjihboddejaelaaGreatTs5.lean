/-
  leave and last of package pool.
-/
import Derived.Test.YtjihboddejaelaaGreatTs1
import Derived.Test.YtjihboddejaelaaGreatTs4
import Derived.RegionTactic
import Derived.BigRegion
import Derived.ChangeAlike
import Derived.Outline
import Derived.Test.YtjihboddejaelaaGreatTs2
import Derived.Test.YtjihboddejaelaaGreatTs3
set_option linter.unusedVariables false
set_option linter.unusedSimpArgs false
set_option maxRecDepth 100000
set_option maxHeartbeats 100000000
namespace Go.Proofs.YtjihboddejaelaaGreat
open Go.RowKit Go.BigFrame
section
variable {w w':World} {e:Nat} {A A1 A2:List Nat} {a:Nat} {F F1 F2:List Pf} {f:Pf}
theorem Ring.GL1 (h:Ring w e (A1++a :: A2) (F1++f :: F2)) (hl:A1.length=F1.length) :
 (∃ u v,Has w (A1.getLastD e) 166 (frC u v a))∧∃ u v,Has w (A2.headD e) 166 (frC u a v):=by
 obtain ⟨G1,G2,eq,h3,h4⟩:=Ny h.row;have hl2:=Zh h3
 obtain ⟨e1,e2⟩:=List.append_inj eq (by omega)
 subst e1;subst e2;obtain ⟨f2,r,e3,h5,h6⟩:=h4
 injection e3 with e4 e5
 subst e4;subst e5;have hends:=h.ends;rw [Uf,List.getLastD_cons,Jn] at hends
 constructor
 ·rcases EL0 A1 with rfl | ⟨B1,z,rfl⟩
  ·exact ⟨pf0,_,hends⟩
  ·obtain ⟨G3,G4,eq2,h7,h8⟩:=Ny h3
   obtain ⟨f3,r3,_,h9,_⟩:=h8;rw [Ea];exact ⟨f3,_,h9⟩
 ·rcases A2 with _ | ⟨b,A2⟩
  ·exact ⟨pf0,_,hends⟩
  ·obtain ⟨f3,r3,_,h9,_⟩:=h6
   exact ⟨f3,_,h9⟩
theorem LO0 {w:World}:∀ {p:Nat} {A:List Nat} {F:List Pf} {q:Nat},seg w p A F q→∀ x∈A,∃ t cs,Has w x t cs
 | _,[],_,_,_,_,hx=>by cases hx
 | p,a :: A,_,q,h,x,hx=>by
   obtain ⟨f,r,rfl,h1,h2⟩:=h
   rcases List.mem_cons.1 hx with rfl | hx
   ·exact ⟨_,_,h1⟩
   ·exact LO0 h2 x hx
theorem Ring.cells (h:Ring w e A F):∀ x∈e :: A,∃ t cs,Has w x t cs:=fun x hx=>by
 rcases List.mem_cons.1 hx with rfl | hx
 ·exact ⟨_,_,h.ends⟩
 ·exact LO0 h.row x hx
theorem Ring.off (h:Ring w e A F) {R:Value→Option (DataW Unit×List MemPlace)} {b c:Nat} {g:Int→Option Nat} (hm:GM R w b g c):b∉e :: A:=fun hx=>by
 obtain ⟨t,cs,hh⟩:=h.cells b hx;exact hm.Fp hh
theorem Ring.grown (h:Ring w e A F) {r:Option Nat} (hg:w.grownBy w' r) (hn:∀ x∈e :: A,some x≠r):Ring w' e A F:=h.kept fun x hx=>hg.block x (h.lt x hx) (hn x hx)
theorem Ring.below (h:Ring w e A F) (hb:Below w.heap.size w w'):Ring w' e A F:=h.kept fun x hx=>hb.block x (h.lt x hx)
end
theorem Ud (A:List Nat) (e:Nat):A.getLastD e∈e :: A:=by
 rcases EL0 A with rfl | ⟨B,z,rfl⟩
 ·exact List.mem_cons_self ..
 ·rw [Ea];exact List.mem_cons_of_mem _ (List.mem_append_right _ (List.mem_singleton.2 rfl))
theorem LT0 (A:List Nat) (e:Nat):A.headD e∈e :: A:=by
 rcases A with _ | ⟨b,A⟩
 ·exact List.mem_cons_self ..
 ·exact List.mem_cons_of_mem _ (List.mem_cons_self ..)
def WK0 (w:World) (p a e h:Nat) (cs:Array Value) (A A':List Nat) (F':List Pf) (f:Pf) (g:Int→Option Nat) (c:Nat) (v:Value) (en:Ending) (w':World):Prop :=
 en = .returned v∧Ring w' e A' F'∧GM Tm w' h (fun y=>if y=f.n then none else g y) (if (g f.n).isSome then c-1 else c)∧Has w' p 106 cs∧(∃ x y,Has w' a 166 (frC f x y))∧Turn (some h :: (e :: A).map some) (some h :: (e :: A).map some) w w'
theorem Ld {l:List Nat} {k:Nat}:some k∈l.map some↔k∈l:=by simp
theorem Ez (b:List (Option Nat)) (x i:Nat) (v:Value) (w:World) (hx:some x∈b):Turn b b w (w.setCell ⟨x,i,none⟩ v) :=
 ⟨rfl,rfl,rfl,by simp [World.setCell],fun k _ hk=>Below.heap_setCell _ _ _ _ (fun e=>hk (by rw [show k=x from e];exact hx)),fun _ h=>.inl h⟩
theorem Uw {b:List (Option Nat)} {x:Nat} {w w':World} (hg:w.grownBy w' (some x)) (hx:some x∈b):Turn b b w w' :=
 ⟨hg.os,hg.tape,hg.output,hg.size,fun k hk hn=>hg.block k hk (fun e=>hn (by rw [e];exact hx)),fun _ h=>.inl h⟩
theorem SM0 (p a e h:Nat) (cs:Array Value) (A1 A2:List Nat) (F1 F2:List Pf) (f:Pf) (g:Int→Option Nat) (c:Nat) (w:World) (hp:Has w p 106 cs) (h3:cs[3]? = some (.map (some h)))
 (hr:Ring w e (A1++a :: A2) (F1++f :: F2)) (hl:A1.length=F1.length) (hm:GM Tm w h g c) (hoff:p∉e :: (A1++a :: A2)) (hn:f.n≤4294967296) :
 Calls Tryz.prog 164 #[.pointer (some ⟨p,0,none⟩),.pointer (some ⟨a,0,none⟩)] w (WK0 w p a e h cs (A1++a :: A2) (A1++A2) (F1++F2) f g c (.tuple #[])):=by
 have ha:=hr.at hl;obtain ⟨⟨u1,v1,hpr⟩,u2,v2,hnx⟩:=hr.GL1 hl;have hlv:=hr.leave hl
 have m1:A1.getLastD e∈e :: (A1++a :: A2):=by
  have:=Ud A1 e;simp only [List.mem_cons,List.mem_append] at this ⊢
  rcases this with h | h
  ·exact .inl h
  ·exact .inr (.inl h)
 have m2:A2.headD e∈e :: (A1++a :: A2):=by
  have:=LT0 A2 e;simp only [List.mem_cons,List.mem_append] at this ⊢
  rcases this with h | h
  ·exact .inl h
  ·exact .inr (.inr (.inr h))
 have nd:=hr.nodup;rw [List.nodup_cons,List.nodup_append,List.nodup_cons] at nd;obtain ⟨he,n1,n2,n3⟩:=nd
 have hea:¬ e=a:=fun x=>he (x ▸ List.mem_append_right _ (List.mem_cons_self ..))
 have q1:¬ a=A1.getLastD e:=fun x=>by
  have:=Ud A1 e;rw [← x] at this
  rcases List.mem_cons.1 this with h | h
  ·exact hea h.symm
  ·exact n3 a h a (List.mem_cons_self ..) rfl
 have q2:¬ a=A2.headD e:=fun x=>by
  have:=LT0 A2 e;rw [← x] at this
  rcases List.mem_cons.1 this with h | h
  ·exact hea h.symm
  ·exact n2.1 h
 have p1:¬ p=A1.getLastD e:=fun x=>hoff (x ▸ m1)
 have p2:¬ p=A2.headD e:=fun x=>hoff (x ▸ m2)
 have hh1:¬ h=A1.getLastD e:=fun x=>hm.Fp (x ▸ hpr)
 have hh2:¬ h=A2.headD e:=fun x=>hm.Fp (x ▸ hnx)
 have T1:=Ac ((Ez (some h :: (e :: (A1++a :: A2)).map some) (A1.getLastD e) 5 (Cc (A2.headD e)) w (List.mem_cons_of_mem _ (Ld.2 m1))).trans (Ez _ (A2.headD e) 4 (Cc (A1.getLastD e)) _ (List.mem_cons_of_mem _ (Ld.2 m2))));obtain ⟨pr,hpre⟩:∃ pr,A1.getLastD e=pr:=⟨_,rfl⟩;obtain ⟨nx,hnxe⟩:∃ nx,A2.headD e=nx:=⟨_,rfl⟩;rw [hpre] at ha hpr hlv q1 p1 hh1 T1;rw [hnxe] at ha hnx hlv q2 p2 hh2 T1;have HL:=Ac hlv
 have A0:=Ac ((ha.far (p:=⟨pr,5,none⟩) q1 (Cc nx)).far (p:=⟨nx,4,none⟩) q2 (Cc pr));have P0:=Ac ((hp.far (p:=⟨pr,5,none⟩) p1 (Cc nx)).far (p:=⟨nx,4,none⟩) p2 (Cc pr));have M0:=Ac ((hm.far (p:=⟨pr,5,none⟩) hh1 (Cc nx)).far (p:=⟨nx,4,none⟩) hh2 (Cc pr));have x3:w.cell? ⟨p,3,none⟩=some (.map (some h)):=(hp.cell 3).trans h3;have a0:w.cell? ⟨a,0,none⟩=some (.int .i64 f.n):=ha.cell 0;have a4:w.cell? ⟨a,4,none⟩=some (Cc pr):=ha.cell 4
 have a5:w.cell? ⟨a,5,none⟩=some (Cc nx):=ha.cell 5;have s5:w.cell? ⟨pr,5,none⟩=some (Cc a):=hpr.cell 5;have s4:w.cell? ⟨nx,4,none⟩=some (Cc a):=hnx.cell 4;have f5:w.frozen? ⟨pr,5,none⟩=false:=hpr.frozen 5;have f4:w.frozen? ⟨nx,4,none⟩=false:=hnx.frozen 4
 have WN:=Ac (wfI (x:=(f.n:Int)) (by omega) (by omega))
 clear ha hpr hnx hlv m1 m2 he n1 n2 n3 hea q1 q2 p1 p2 hh1 hh2 hpre hnxe hr hl hm hoff hp hn
 go_enter Tryz.func164,Tryz.ntmps164
 go_wp2_with fail
 go_region
 go_wp2_with fail
 generalize (w.setCell ⟨pr,5,none⟩ (Cc nx)).setCell ⟨nx,4,none⟩ (Cc pr)=W at *
 have y3:W.cell? ⟨p,3,none⟩=some (.map (some h)):=(P0.out.cell 3).trans h3;have b0:W.cell? ⟨a,0,none⟩=some (.int .i64 f.n):=A0.out.cell 0;obtain ⟨w3,hrun,hm3,hg3⟩:=(M0.out.block (w':=W.drew.drew) rfl).del Tryz.underlying103 (f.n:Int) WN.out 0;have HM3:=Ac hm3;have HG3:=Ac hg3;clear hm3 hg3 x3 a0 a4 a5 s5 s4 f5 f4
 go_region
 go_end0
 have R2:Ring W.drew.drew e (A1++A2) (F1++F2):=HL.out.kept fun x _=>rfl
 have nh:h∉e :: (A1++A2):=R2.off (M0.out.block (w':=W.drew.drew) rfl)
 refine ⟨rfl,R2.grown HG3.out (fun x hx e2=>nh (Option.some.inj e2 ▸ hx)),HM3.out, ?_,⟨pr,nx, ?_⟩, ?_⟩
 ·exact (show Has W.drew.drew p _ _ from P0.out).grown HG3.out (fun e2=>M0.out.Fp (Option.some.inj e2 ▸ P0.out))
 ·exact (show Has W.drew.drew a _ _ from A0.out).grown HG3.out (fun e2=>M0.out.Fp (Option.some.inj e2 ▸ A0.out))
 ·exact (T1.out.trans (Turn.below _ (((Below.refl _ _).drew).drew))).trans (Uw HG3.out (List.mem_cons_self ..))
def VL0 (w:World) (p a e h:Nat) (cs:Array Value) (A:List Nat) (F:List Pf) (f:Pf) (g:Int→Option Nat) (c:Nat) (en:Ending) (w':World):Prop :=
 en = .returned (Cc a)∧Ring w' e (A++[a]) (F++[f])∧GM Tm w' h (fun y=>if y=f.n then some a else g y) (if (g f.n).isSome then c else c+1)∧Has w' p 106 cs∧Turn (some a :: some h :: (e :: A).map some) (some a :: some h :: (e :: A).map some) w w'
theorem Ring.tail {w:World} {e:Nat} {A:List Nat} {F:List Pf} (h:Ring w e A F):∃ u v,Has w (A.getLastD e) 166 (frC u v e):=by
 rcases EL0 A with rfl | ⟨B,z,rfl⟩
 ·exact ⟨pf0,_,h.ends⟩
 ·obtain ⟨G3,G4,eq2,h7,h8⟩:=Ny h.row
  obtain ⟨f3,r3,_,h9,_⟩:=h8;rw [Ea];exact ⟨f3,_,h9⟩
theorem YH0 (p a e h:Nat) (cs:Array Value) (A:List Nat) (F:List Pf) (f:Pf) (va vb:Value) (g:Int→Option Nat) (c:Nat) (w:World) (hp:Has w p 106 cs) (h2:cs[2]? = some (Cc e)) (h3:cs[3]? = some (.map (some h)))
 (hr:Ring w e A F) (ha:Has w a 166 #[.int .i64 f.n,.string f.s,.int .i64 f.pins,.bool f.dirty,va,vb]) (hea:a∉e :: A) (hm:GM Tm w h g c) (hoff:p∉e :: A) (hpa:¬ p=a) (hc:c≤1000000) (hn:f.n≤4294967296) :
 Calls Tryz.prog 126 #[.pointer (some ⟨p,0,none⟩),.pointer (some ⟨a,0,none⟩)] w (VL0 w p a e h cs A F f g c):=by
 have hae:¬ a=e:=fun x=>hea (x ▸ List.mem_cons_self ..)
 have hpe:¬ p=e:=fun x=>hoff (x ▸ List.mem_cons_self ..)
 have m1:=Ud A e;obtain ⟨u1,v1,hpr⟩:=hr.tail;have hlast:Ring ((((w.setCell ⟨a,4,none⟩ (Cc (A.getLastD e))).setCell ⟨a,5,none⟩ (Cc e)).setCell ⟨A.getLastD e,5,none⟩ (Cc a)).setCell ⟨e,4,none⟩ (Cc a)) e (A++[a]) (F++[f]):=hr.FG1 ha hea;obtain ⟨pr,hpre⟩:∃ pr,A.getLastD e=pr:=⟨_,rfl⟩;have hends:=hr.ends;rw [hpre] at hlast hpr m1 hends
 have hapr:¬ a=pr:=fun x=>hea (x ▸ m1)
 have hppr:¬ p=pr:=fun x=>hoff (x ▸ m1)
 have hha:¬ h=a:=fun x=>hm.Fp (x ▸ ha)
 have hhe:¬ h=e:=fun x=>hm.Fp (x ▸ hends)
 have hhp:¬ h=pr:=fun x=>hm.Fp (x ▸ hpr)
 have a1:=(ha.set 4 (Cc pr)).set 5 (Cc e);have P1:=Ac ((hp.far (p:=⟨a,4,none⟩) hpa (Cc pr)).far (p:=⟨a,5,none⟩) hpa (Cc e));have M1:=Ac ((hm.far (p:=⟨a,4,none⟩) hha (Cc pr)).far (p:=⟨a,5,none⟩) hha (Cc e));have r1:=(hpr.far (p:=⟨a,4,none⟩) (Ne.symm hapr) (Cc pr)).far (p:=⟨a,5,none⟩) (Ne.symm hapr) (Cc e);have e1:=(hends.far (p:=⟨a,4,none⟩) (Ne.symm hae) (Cc pr)).far (p:=⟨a,5,none⟩) (Ne.symm hae) (Cc e)
 have T1:=Ac ((Ez (some a :: some h :: (e :: A).map some) a 4 (Cc pr) w (List.mem_cons_self ..)).trans (Ez _ a 5 (Cc e) _ (List.mem_cons_self ..)));have x2:w.cell? ⟨p,2,none⟩=some (Cc e):=(hp.cell 2).trans h2;have e4:w.cell? ⟨e,4,none⟩=some (Cc pr):=hends.cell 4;have a4:w.cell? ⟨a,4,none⟩=some va:=ha.cell 4;have a5:w.cell? ⟨a,5,none⟩=some vb:=ha.cell 5;have af:=ha.frozen;have HL:=Ac hlast
 have WN:=Ac (wfI (x:=(f.n:Int)) (by omega) (by omega))
 have NE:=Ac (And.intro hapr (And.intro hae (And.intro hppr (And.intro hpe (And.intro hha (And.intro hhe hhp))))));have MP:=Ac m1;have A1:=Ac a1;have R1:=Ac r1;have E1:=Ac e1;clear ha hpr hlast hends hr hea hm hoff hp hpa hapr hppr hha hhe hhp hae hpe m1 hpre hn a1 r1 e1
 go_enter Tryz.func126,Tryz.ntmps126
 go_wp2_with fail
 go_region
 go_wp2_with fail
 clear x2 e4 a4 a5 af
 generalize (w.setCell ⟨a,4,none⟩ (Cc pr)).setCell ⟨a,5,none⟩ (Cc e)=W1 at *
 have b4:W1.cell? ⟨a,4,none⟩=some (Cc pr):=A1.out.cell 4;have b5:W1.cell? ⟨a,5,none⟩=some (Cc e):=A1.out.cell 5;have c5:W1.cell? ⟨pr,5,none⟩=some (Cc e):=R1.out.cell 5;have c4:W1.cell? ⟨e,4,none⟩=some (Cc pr):=E1.out.cell 4;have cf:=R1.out.frozen;have df:=E1.out.frozen
 go_region
 go_wp2_with fail
 obtain ⟨hapr,hae,hppr,hpe,hha,hhe,hhp⟩:=NE.out;have A2:=Ac ((A1.out.far (p:=⟨pr,5,none⟩) hapr (Cc a)).far (p:=⟨e,4,none⟩) hae (Cc a));have P2:=Ac ((P1.out.far (p:=⟨pr,5,none⟩) hppr (Cc a)).far (p:=⟨e,4,none⟩) hpe (Cc a));have M2:=Ac ((M1.out.far (p:=⟨pr,5,none⟩) hhp (Cc a)).far (p:=⟨e,4,none⟩) hhe (Cc a));have T2:=Ac ((T1.out.trans (Ez _ pr 5 (Cc a) _ (List.mem_cons_of_mem _ (List.mem_cons_of_mem _ (Ld.2 MP.out))))).trans (Ez _ e 4 (Cc a) _ (List.mem_cons_of_mem _ (List.mem_cons_of_mem _ (Ld.2 (List.mem_cons_self ..))))))
 clear b4 b5 c5 c4 cf df hapr hae hppr hpe hha hhe hhp
 generalize (W1.setCell ⟨pr,5,none⟩ (Cc a)).setCell ⟨e,4,none⟩ (Cc a)=W2 at *
 have y3:W2.cell? ⟨p,3,none⟩=some (.map (some h)):=(P2.out.cell 3).trans h3;have b0:W2.cell? ⟨a,0,none⟩=some (.int .i64 f.n):=A2.out.cell 0
 obtain ⟨w3,hrun,hm3,hg3⟩:=(M2.out.block (w':=W2.drew.drew.drew) rfl).put Tryz.underlying103 (Nat.le_trans hc (by decide)) (f.n:Int) WN.out (val:=Cc a) (v:=a) (ps:=[]) rfl
 have HM3:=Ac hm3;have HG3:=Ac hg3;clear hm3 hg3
 go_region
 go_wp2_with fail
 go_ret
 have R2:Ring W2.drew.drew.drew e (A++[a]) (F++[f]):=HL.out.kept fun x _=>rfl
 have nh:h∉e :: (A++[a]):=R2.off (M2.out.block (w':=W2.drew.drew.drew) rfl)
 refine ⟨rfl,R2.grown HG3.out (fun x hx e2=>nh (Option.some.inj e2 ▸ hx)),HM3.out, ?_, ?_⟩
 ·exact (show Has W2.drew.drew.drew p _ _ from P2.out).grown HG3.out (fun e2=>M2.out.Fp (Option.some.inj e2 ▸ P2.out))
 ·exact (T2.out.trans (Turn.below _ ((((Below.refl _ _).drew).drew).drew))).trans (Uw HG3.out (List.mem_cons_of_mem _ (List.mem_cons_self ..)))
open Go.Maps
theorem YM0 {w w':World} {x x' y:List (Option Nat)} (hd:QR0 x y) (ht:Turn x x' w w') (hy:∀ k,some k∈y→k<w.heap.size):QR0 x' y:=fun k hk h2=>by
 rcases ht.new k hk with h3 | h3
 ·exact hd k h3 h2
 ·have:=hy k h2;omega
theorem Ik (w:World) {ops:Array Oper} {rest:List Oper} {o:Oper} {a:Act} {Q:Exit→Act→World→Prop}
 (hg:o.guard=none) (m x:Operand) (hop:o.op=Op.lookup 104 m x false) (b n:Nat) (f:Int→Nat)
 (hm:a.eval m = .map (some b)) (h:MP w b n f) (k:Int) (hx:a.eval x = .int .i64 k) (hk:(Lit.int .i64 k).wf=true)
 (hK:wpList Tryz.prog ops Q rest (a.put o.dst (.int .i64 (f k))) w):wpList Tryz.prog ops Q (o :: rest) a w:=by
 obtain ⟨D,h1,h2⟩:=h
 refine wpList_lookup_own_int w hg m x _ hop 3 3 .i64 Sj Tryz.underlying104 Tryz.underlying3 (VY0 w) b n D hm h1 _ _ hx (keyOf_int_mk Tryz.underlying3 hk) fun c hat hwc=>?_
 have h3:=(h2 k).symm.trans hat
 have h4:((f k:Nat):Int)=c:=by cases h3;rfl
 rw [← h4];exact hK
theorem YY0 (b:List (Option Nat)) (gd g m1 m2:Nat) (R:Rw) (n:Int) (w:World) (h:LR w b gd g m1 m2 R) (hok:R.D.ok) (hf:R.f1 n≤1000000) :
 Calls Tryz.prog 123 #[.pointer (some ⟨g,0,none⟩),.int .i64 n] w fun e w'=>e = .returned (.tuple #[.string (R.Gy n),.int .i64 (R.Ej n)])∧w=w':=by
 have HL:=Ac h;have x0:=h.cell0;have x3:w.cell? ⟨g,3,none⟩=some (.map (some m1)):=h.has.cell 3;have HM:=Ac h.map1;have OK:=Ac hok;clear h hok
 by_cases hA:0≤n∧n≤2147483647
 ·have WN:=Ac (wfI (x:=n) (by omega) (by omega))
  have d1:decide (n<0)=false:=by simp;omega
  have d2:decide ((2147483648:Int)≤n)=false:=by simp;omega
  by_cases hz:R.f1 n≠0
  ·have E:=Ac (show R.Gy n=R.D.Gy 1 (R.at1 n) 1024∧R.Ej n=R.D.Ej 1 (R.at1 n) 1024 from ⟨(if_pos hA).trans (if_pos hz),(if_pos hA).trans (if_pos hz)⟩)
   rw [E.out.1,E.out.2];unfold Rw.at1;obtain ⟨k,hk⟩:∃ k,R.f1 n=k:=⟨_,rfl⟩;have HK:=Ac hk;rw [hk] at hf hz ⊢;clear E hk;have TP:=Ac (CJ0 gd R.D b 1 (64+((k:Int)-1)*1028+4) 1024 w HL.out.disk OK.out);obtain ⟨S,hS⟩:∃ S,R.D.Gy 1 (64+((k:Int)-1)*1028+4) 1024=S:=⟨_,rfl⟩;obtain ⟨E,hE⟩:∃ S,R.D.Ej 1 (64+((k:Int)-1)*1028+4) 1024=S:=⟨_,rfl⟩;rw [hS,hE] at TP ⊢
   have k1:(0:Int)<(k:Int):=by omega
   clear hS hE hA hz
   go_enter Tryz.func123,Tryz.ntmps123
   go_wp2_with (first
    | (at_lookup;refine Ik _ rfl _ _ rfl m1 R.nf R.f1 rfl HM.out n rfl WN.out ?_;rw [HK.out])
    | (go_at_call 95;refine (TP.out).mono ?_;rintro e w1 ⟨rfl,rfl⟩))
   go_ret2
   exact ⟨rfl,rfl⟩
  ·have hz0:R.f1 n=0:=Classical.byContradiction hz
   have HK:=Ac hz0;have TS:=Ac (DN0 gd R.D b 0 w HL.out.disk OK.out)
   obtain ⟨N,hN,hNb⟩:∃ N:Nat,R.D.Wl 0=N∧N≤67108864:=by
    unfold Dk.Wl;split
    ·exact ⟨_,rfl,OK.out.seen 0⟩
    ·exact ⟨0,rfl,Nat.zero_le _⟩
   have wr2:wrap64 ((N:Int) / 1024)=(N:Int) / 1024:=IntWalk.wrap64_in _ (by omega)
   have TP:=Ac (CJ0 gd R.D b 0 (n*1024) 1024 w HL.out.disk OK.out)
   have q1:R.Gy n=if R.D.Si 0≠0 then ⟨#[]⟩ else if R.D.Wl 0 / 1024≤n then ⟨#[]⟩ else R.D.Gy 0 (n*1024) 1024:=(if_pos hA).trans (if_neg hz)
   have q2:R.Ej n=if R.D.Si 0≠0 then R.D.Si 0 else if R.D.Wl 0 / 1024≤n then 7 else R.D.Ej 0 (n*1024) 1024:=(if_pos hA).trans (if_neg hz)
   obtain ⟨S,hS⟩:∃ S,R.D.Gy 0 (n*1024) 1024=S:=⟨_,rfl⟩;obtain ⟨E,hE⟩:∃ S,R.D.Ej 0 (n*1024) 1024=S:=⟨_,rfl⟩;obtain ⟨F,hF⟩:∃ S,R.D.Si 0=S:=⟨_,rfl⟩;rw [hS,hE] at TP;rw [hN,hF] at TS;rw [hN,hF,hS] at q1;rw [hN,hF,hE] at q2;rw [q1,q2];have HA:=Ac hA;clear hS hE hA hz hz0 hN hF q1 q2 hNb
   by_cases hF:F≠0
   ·rw [if_pos hF,if_pos hF]
    go_enter Tryz.func123,Tryz.ntmps123
    go_wp2_with (first
     | (at_lookup;refine Ik _ rfl _ _ rfl m1 R.nf R.f1 rfl HM.out n rfl WN.out ?_;rw [HK.out])
     | (go_at_call 94;refine (TS.out).mono ?_;rintro e w1 ⟨rfl,rfl⟩))
    go_ret2
    exact ⟨rfl,rfl⟩
   ·rw [if_neg hF,if_neg hF]
    have hF0:F=0:=Classical.byContradiction hF;subst hF0
    by_cases hx:(N:Int) / 1024≤n
    ·rw [if_pos hx,if_pos hx]
     clear hF
     go_enter Tryz.func123,Tryz.ntmps123
     go_wp2_with (first
      | (at_lookup;refine Ik _ rfl _ _ rfl m1 R.nf R.f1 rfl HM.out n rfl WN.out ?_;rw [HK.out])
      | (go_at_call 94;refine (TS.out).mono ?_;rintro e w1 ⟨rfl,rfl⟩))
     go_ret2
     exact ⟨rfl,rfl⟩
    ·rw [if_neg hx,if_neg hx]
     have wr1:wrap64 (n*1024)=n*1024:=IntWalk.wrap64_in _ (by have:=HA.out;omega)
     clear hF
     go_enter Tryz.func123,Tryz.ntmps123
     go_wp2_with (first
      | (at_lookup;refine Ik _ rfl _ _ rfl m1 R.nf R.f1 rfl HM.out n rfl WN.out ?_;rw [HK.out])
      | (go_at_call 94;refine (TS.out).mono ?_;rintro e w1 ⟨rfl,rfl⟩) | (go_at_call 95;refine (TP.out).mono ?_;rintro e w1 ⟨rfl,rfl⟩))
     go_ret2
     exact ⟨rfl,rfl⟩
 ·have E:=Ac (show R.Gy n=⟨#[]⟩∧R.Ej n=1 from ⟨if_neg hA,if_neg hA⟩)
  rw [E.out.1,E.out.2]
  by_cases h1:0≤n
  ·have d1:decide (n<0)=false:=by simp;omega
   have d2:decide ((2147483648:Int)≤n)=true:=by simp;omega
   clear E hA h1
   go_enter Tryz.func123,Tryz.ntmps123
   go_wp2_with fail
   go_ret2
   exact ⟨rfl,rfl⟩
  ·have d1:decide (n<0)=true:=by simp;omega
   clear E hA h1
   go_enter Tryz.func123,Tryz.ntmps123
   go_wp2_with fail
   go_ret2
   exact ⟨rfl,rfl⟩
def Dk.calm (D:Dk):Prop:=D.down=false∧D.fails = -1
section
variable {D:Dk}
theorem Dk.calm.go (h:D.calm):¬ D.stops:=by
 unfold Dk.stops;rw [h.1,h.2];decide
theorem Dk.calm.turn (h:D.calm):D.turn.calm:=by
 unfold Dk.turn;rw [if_neg h.go]
 refine ⟨h.1, ?_⟩
 show (if 0<D.fails then D.fails-1 else D.fails) = -1
 rw [h.2];decide
theorem Dk.calm.Ec (h:D.calm):D.Ec=0:=if_neg h.go
theorem Dk.calm.change (h:D.calm) (c:Ch):(D.change c).calm:=by
 unfold Dk.change;rw [if_neg h.go];exact ⟨h.turn.1,h.turn.2⟩
theorem Dk.calm.sync (h:D.calm) (f:Int):(D.sync f).calm:=by
 unfold Dk.sync
 split
 ·rw [if_neg h.go];exact ⟨h.turn.1,h.turn.2⟩
 ·exact h
theorem Dk.calm.cut (h:D.calm) (f a:Int):(D.Uu f a).calm:=by
 unfold Dk.Uu
 split
 ·exact h.change _
 ·exact h
theorem Dk.calm.write (h:D.calm) (f a:Int) (s:ByteArray):(D.write f a s).calm:=by
 unfold Dk.write
 split
 ·exact h.change _
 ·exact h
theorem Fit.cut {k:Nat} (h:Fit D (k+1)) (f a:Int):Fit (D.Uu f a) k:=by
 unfold Dk.Uu
 split
 ·rename_i hf
  obtain ⟨h1,h2,h3,h4,h5,h6⟩:=hf
  exact FR0 h ⟨by show f.toNat<2;omega,by show a.toNat≤_;omega,by show a.toNat+0≤_;omega,fun _=>rfl⟩
 ·exact h.less (by omega)
theorem Fit.sync {k:Nat} (h:Fit D (k+1)) (f:Int):Fit (D.sync f) k:=by
 refine ⟨Dk.Vx h.ok f, ?_, ?_⟩
 ·have:=h.count;have:=GE0 D
  unfold Dk.sync;split
  ·split
   ·omega
   ·show D.turn.count+k≤_;omega
  ·omega
 ·have:=h.waits
  have h2:D.turn.waits=D.waits:=by unfold Dk.turn;split <;> rfl
  unfold Dk.sync;split
  ·split
   ·rw [h2];omega
   ·show (D.waits.filter _).length+k≤_
    have:=List.length_filter_le (fun c:Ch=>decide (c.file≠f.toNat)) D.waits
    omega
  ·omega
end
def VF0 (w0:World) (b0:List (Option Nat)) (gd:Nat) (xs:List (Nat×TypeId×Array Value)) (D:Dk) (u:World):Prop :=
 ∃ b',DP u b' gd D∧ES0 u xs∧Off xs b'∧Turn b0 b' w0 u
theorem RJ0 (fs:List (FuncId×Array Value)) (gs n:Nat) (w0:World) (b0:List (Option Nat)) (gd:Nat) (xs:List (Nat×TypeId×Array Value)) (Ds:Nat→Dk) (t:TypeId) (w:World)
 (hn:fs.length=n) (hn4:n≤4) (hgs:(gs,t,(fs.map (fun x=>Value.func (.func x.1) #[] x.2)).toArray)∈xs) (h0:VF0 w0 b0 gd xs (Ds 0) w)
 (hrun:∀ (i:Nat) k cs,fs[i]? = some (k,cs)→∀ u,(callFunc k cs).run Tryz.prog u = .ok (.enter k cs) u)
 (hstep:∀ (i:Nat) k cs,fs[i]? = some (k,cs)→∀ u b',DP u b' gd (Ds i)→ES0 u xs→Off xs b'→Calls Tryz.prog k cs u (Qw u b' gd (Ds (i+1)) (.int .i64 0))) :
 Calls Tryz.prog 116 #[.slice (some ⟨gs,0,none⟩) n n] w fun e w'=>e = .returned (.int .i64 0)∧VF0 w0 b0 gd xs (Ds n) w':=by
 refine (QO0 fs gs n w (fun i u=>i≤n∧VF0 w0 b0 gd xs (Ds i) u) (fun r u=>r=0∧VF0 w0 b0 gd xs (Ds n) u) hn hn4 ?_ hrun ?_ ?_ ⟨Nat.zero_le _,h0⟩).mono ?_
 ·rintro i u ⟨_,b',_,hx,_,_⟩ j k cs hj
  have:=(hx _ hgs).cell j;simp only at this;rw [this];simp [hj]
 ·rintro i k cs hi u ⟨hin,b',hl,hx,ho,ht⟩
  have hlt:i<n:=by
   have:=(List.getElem?_eq_some_iff.1 hi).1;omega
  refine (hstep i k cs hi u b' hl hx ho).mono ?_
  rintro e w' ⟨rfl,b'',hl2,ht2⟩;obtain ⟨hx2,ho2⟩:=hx.turn ht2 ho;exact ⟨0,rfl,.inl ⟨rfl,hlt,b'',hl2,hx2,ho2,ht.trans ht2⟩⟩
 ·rintro u ⟨_,hH⟩
  exact ⟨rfl,hH⟩
 ·rintro e w' ⟨r,rfl,rfl,hH⟩
  exact ⟨rfl,hH⟩
def QQ0 (D:Dk) (p:Nat):Nat→Dk
 | 0=>D
 | 1=>D.Uu 1 0
 | 2=>(D.Uu 1 0).sync 1
 | 3=>((D.Uu 1 0).sync 1).write 1 0 (bsOf (Hu++slotL 1 0 p))
 | _=>(((D.Uu 1 0).sync 1).write 1 0 (bsOf (Hu++slotL 1 0 p))).sync 1
theorem SX0 (b:List (Option Nat)) (gd g:Nat) (D:Dk) (bl:Nat) (w:World) (h:DP w b gd D) (hg:w.cell? ⟨g,0,none⟩=some (.pointer (some ⟨gd,0,none⟩))) (hgz:g<w.heap.size) (hx:Has w bl 97 #[.pointer (some ⟨g,0,none⟩)]) (hfit:Fit D 1) (hc:D.calm) :
 Calls Tryz.prog 184 #[.pointer (some ⟨bl,0,none⟩)] w (Qw w b gd (D.Uu 1 0) (.int .i64 0)):=by
 have TP:=Ac (fun b1 w1 (h1:DP w1 b1 gd D)=>ZG0 gd D b1 1 0 w1 h1 hfit.ok (by have:=hfit.count;omega) (by have:=hfit.waits;omega))
 have hE:D.ES1 1 0=0:=(show D.ES1 1 0=D.Ec from if_pos (by decide)).trans hc.Ec
 obtain ⟨D',hD⟩:∃ x,D.Uu 1 0=x:=⟨_,rfl⟩;rw [hE,hD] at TP;rw [hD];have HL:=Ac h;have x0:=hx.cell 0;clear hE hD h hx hfit
 go_enter Tryz.func184,Tryz.ntmps184
 go_wp2_with (go_at_call 175;(with_reducible refine (TP.out _ _ HL.out).mono ?_);rintro e w2 ⟨rfl,hd2⟩;have HD:=Ac hd2;clear hd2)
 go_ret
 exact ⟨rfl,HD.out⟩
theorem OS0 (b:List (Option Nat)) (gd g:Nat) (D:Dk) (bl:Nat) (w:World) (h:DP w b gd D) (hg:w.cell? ⟨g,0,none⟩=some (.pointer (some ⟨gd,0,none⟩))) (hgz:g<w.heap.size) (hx:Has w bl 97 #[.pointer (some ⟨g,0,none⟩)]) (hfit:Fit D 1) (hc:D.calm) :
 Calls Tryz.prog 185 #[.pointer (some ⟨bl,0,none⟩)] w (Qw w b gd (D.sync 1) (.int .i64 0)):=by
 have TP:=Ac (fun b1 w1 (h1:DP w1 b1 gd D)=>Yf gd D b1 1 w1 h1 hfit.ok (by have:=hfit.count;omega) (by have:=hfit.waits;omega))
 have hE:D.Py 1=0:=(show D.Py 1=D.Ec from if_pos (by decide)).trans hc.Ec
 obtain ⟨D',hD⟩:∃ x,D.sync 1=x:=⟨_,rfl⟩;rw [hE,hD] at TP;rw [hD];have HL:=Ac h;have x0:=hx.cell 0;clear hE hD h hx hfit
 go_enter Tryz.func185,Tryz.ntmps185
 go_wp2_with (go_at_call 119;(with_reducible refine (TP.out _ _ HL.out).mono ?_);rintro e w2 ⟨rfl,hd2⟩;have HD:=Ac hd2;clear hd2)
 go_ret
 exact ⟨rfl,HD.out⟩
theorem OP0 (b:List (Option Nat)) (gd g:Nat) (D:Dk) (bl:Nat) (w:World) (h:DP w b gd D) (hg:w.cell? ⟨g,0,none⟩=some (.pointer (some ⟨gd,0,none⟩))) (hgz:g<w.heap.size) (hx:Has w bl 97 #[.pointer (some ⟨g,0,none⟩)]) (hfit:Fit D 1) (hc:D.calm) :
 Calls Tryz.prog 188 #[.pointer (some ⟨bl,0,none⟩)] w (Qw w b gd (D.sync 1) (.int .i64 0)):=by
 have TP:=Ac (fun b1 w1 (h1:DP w1 b1 gd D)=>Yf gd D b1 1 w1 h1 hfit.ok (by have:=hfit.count;omega) (by have:=hfit.waits;omega))
 have hE:D.Py 1=0:=(show D.Py 1=D.Ec from if_pos (by decide)).trans hc.Ec
 obtain ⟨D',hD⟩:∃ x,D.sync 1=x:=⟨_,rfl⟩;rw [hE,hD] at TP;rw [hD];have HL:=Ac h;have x0:=hx.cell 0;clear hE hD h hx hfit
 go_enter Tryz.func188,Tryz.ntmps188
 go_wp2_with (go_at_call 119;(with_reducible refine (TP.out _ _ HL.out).mono ?_);rintro e w2 ⟨rfl,hd2⟩;have HD:=Ac hd2;clear hd2)
 go_ret
 exact ⟨rfl,HD.out⟩
theorem TW0 (b:List (Option Nat)) (gd g p:Nat) (D:Dk) (bl:Nat) (cs:Array Value) (w:World) (h:DP w b gd D) (hh:Has w g 181 cs) (hg:cs[0]? = some (.pointer (some ⟨gd,0,none⟩))) (hg5:cs[5]? = some (.int .i64 p)) (hx:Has w bl 97 #[.pointer (some ⟨g,0,none⟩)]) (hfit:Fit D 1) (hc:D.calm) (hp:p≤4611686018427387904) :
 Calls Tryz.prog 186 #[.pointer (some ⟨bl,0,none⟩)] w (Qw w b gd (D.write 1 0 (bsOf (Hu++slotL 1 0 p))) (.int .i64 0)):=by
 have ST:=Ac (Um 1 0 p (by omega) (by omega) hp)
 rw [show ((1:Nat):Int)=1 from rfl,show ((0:Nat):Int)=0 from rfl] at ST
 have TP:=Ac (fun b1 w1 (h1:DP w1 b1 gd D)=>Ze gd D b1 1 0 (bsOf (Hu++slotL 1 0 p)) w1 h1 hfit.ok (by have:=hfit.count;omega) (by have:=hfit.waits;omega) (by rw [Bv,List.length_append,Ed];decide))
 have hE:D.Pn 1 0 (bsOf (Hu++slotL 1 0 p))=0:=(show _=D.Ec from if_pos (by rw [Bv,List.length_append,Ed];decide)).trans hc.Ec
 rw [hE,← Ri,show bsOf Hu=⟨#[114,101,108,115,116,111,114,101,32,108,111,103,32,48,48,49]⟩ from rfl] at TP
 rw [← Ri,show bsOf Hu=⟨#[114,101,108,115,116,111,114,101,32,108,111,103,32,48,48,49]⟩ from rfl]
 obtain ⟨S,hS⟩:∃ S,bsOf (slotL 1 0 p)=S:=⟨_,rfl⟩
 have hz:S.size=24:=by rw [← hS,Bv,Ed]
 rw [hS] at ST TP ⊢;obtain ⟨D',hD⟩:∃ x,D.write 1 0 (⟨#[114,101,108,115,116,111,114,101,32,108,111,103,32,48,48,49]⟩++S)=x:=⟨_,rfl⟩;rw [hD] at TP ⊢;have HL:=Ac (h.below (Below.refl _ _).drew);have HH:=Ac (hh.Aj (Below.refl _ _).drew);have HX:=Ac (hx.Aj (Below.refl _ _).drew);have HB:=Ac ((Below.refl w.heap.size w).drew);have x0:=hx.cell 0;have x1:=(hh.cell 0).trans hg;have x5:=(hh.cell 5).trans hg5
 have gz:=hh.lt;have G0:=Ac hg;have G5:=Ac hg5;clear hS hE hD h hx hfit hg hg5 hh
 go_enter Tryz.func186,Tryz.ntmps186
 generalize hMK:(⟨#[114,101,108,115,116,111,114,101,32,108,111,103,32,48,48,49]⟩:ByteArray)=MK at *
 have mz:MK.size=16:=by rw [← hMK];rfl
 clear hMK
 go_wp2_with fail
 go_region_with
  (first | (go_at_call 187;(with_reducible refine (ST.out _).mono ?_);rintro e w1 ⟨rfl,hb1⟩;have H1:=Ac (HL.out.below hb1);have HB1:=Ac (Am HB.out hb1 HB.out.size);have y0:=(HX.out.Aj hb1).cell 0;have y1:=((HH.out.Aj hb1).cell 0).trans G0.out;have yz:=(HH.out.Aj hb1).lt) | (go_at_call 172;(with_reducible refine (TP.out _ _ H1.out).mono ?_);rintro e w2 ⟨rfl,b2,hd2,ht2⟩;have HD:=Ac hd2;have HT:=Ac ht2;clear hd2 ht2))
 all_goals
  go_wp2_with fail
  go_ret
  exact ⟨rfl,b2,HD.out,(Turn.below b HB1.out).trans HT.out⟩
theorem KY0 (cs:Array Value) (u:World):(callFunc 184 cs).run Tryz.prog u = .ok (.enter 184 cs) u:=by kernel_rfl
theorem KU0 (cs:Array Value) (u:World):(callFunc 185 cs).run Tryz.prog u = .ok (.enter 185 cs) u:=by kernel_rfl
theorem LZ0 (cs:Array Value) (u:World):(callFunc 186 cs).run Tryz.prog u = .ok (.enter 186 cs) u:=by kernel_rfl
theorem MP0 (cs:Array Value) (u:World):(callFunc 188 cs).run Tryz.prog u = .ok (.enter 188 cs) u:=by kernel_rfl
def IO0 (N:Nat):List (FuncId×Array Value):=[(184,#[.pointer (some ⟨N,0,none⟩)]),(185,#[.pointer (some ⟨N,0,none⟩)]),(186,#[.pointer (some ⟨N,0,none⟩)]),(188,#[.pointer (some ⟨N,0,none⟩)])]
def Ry (gs N g:Nat) (cs:Array Value):List (Nat×TypeId×Array Value) :=
 [(gs,50,((IO0 N).map (fun x=>Value.func (.func x.1) #[] x.2)).toArray),(N,97,#[.pointer (some ⟨g,0,none⟩)]),(g,181,cs)]
theorem EP0 (b:List (Option Nat)) (gd g p N gs:Nat) (D:Dk) (cs:Array Value) (w:World) (hgs:gs=w.heap.size) (h:DP w b gd D) (hh:Has w g 181 cs) (hg:cs[0]? = some (.pointer (some ⟨gd,0,none⟩))) (hg5:cs[5]? = some (.int .i64 p)) (hx:Has w N 97 #[.pointer (some ⟨g,0,none⟩)])
 (hgb:some g∉b) (hNb:some N∉b) (hfit:Fit D 4) (hc:D.calm) (hp:p≤4611686018427387904) :
 Calls Tryz.prog 116 #[.slice (some ⟨gs,0,none⟩) 4 4] (w.alloc (.cells ((IO0 N).map (fun x=>Value.func (.func x.1) #[] x.2)).toArray 50)).drew fun e w'=>e = .returned (.int .i64 0)∧VF0 w b gd (Ry gs N g cs) (QQ0 D p 4) w':=by
 subst hgs
 have hb:=Below.drew <| (Below.refl w.heap.size w).alloc (Nat.le_refl _) (.cells ((IO0 N).map (fun x=>Value.func (.func x.1) #[] x.2)).toArray 50)
 refine RJ0 (IO0 N) w.heap.size 4 w b gd (Ry w.heap.size N g cs) (QQ0 D p) 50 _ rfl (by omega) (by simp [Ry]) ⟨b,h.below hb, ?_, ?_,Turn.below _ hb⟩ ?_ ?_
 ·intro x hx2
  simp only [Ry,List.mem_cons,List.not_mem_nil,or_false] at hx2
  rcases hx2 with rfl | rfl | rfl
  ·exact Has.new _ _ _
  ·exact hx.alloc _
  ·exact hh.alloc _
 ·intro x hx2 h2
  simp only [Ry,List.mem_cons,List.not_mem_nil,or_false] at hx2
  rcases hx2 with rfl | rfl | rfl
  ·have:=h.lt h2;simp only at this;omega
  ·exact hNb h2
  ·exact hgb h2
 ·intro i k cs hi u
  have h4:i<4:=(List.getElem?_eq_some_iff.1 hi).1
  obtain rfl | rfl | rfl | rfl:i=0∨i=1∨i=2∨i=3:=by omega
  ·cases hi;exact KY0 _ _
  ·cases hi;exact KU0 _ _
  ·cases hi;exact LZ0 _ _
  ·cases hi;exact MP0 _ _
 ·intro i k cs2 hi u b' hl hx2 ho
  have hN:Has u N 97 #[.pointer (some ⟨g,0,none⟩)]:=hx2 (N,_,_) (by simp [Ry])
  have hG:Has u g 181 cs:=hx2 (g,_,_) (by simp [Ry])
  have f1:Fit (D.Uu 1 0) 3:=hfit.cut _ _;have f2:Fit ((D.Uu 1 0).sync 1) 2:=f1.sync _;have f3:Fit (((D.Uu 1 0).sync 1).write 1 0 (bsOf (Hu++slotL 1 0 p))) 1:=f2.write _ _ _;have c1:(D.Uu 1 0).calm:=hc.cut _ _;have c2:((D.Uu 1 0).sync 1).calm:=c1.sync _;have c3:(((D.Uu 1 0).sync 1).write 1 0 (bsOf (Hu++slotL 1 0 p))).calm:=c2.write _ _ _;have h4:i<4:=(List.getElem?_eq_some_iff.1 hi).1
  obtain rfl | rfl | rfl | rfl:i=0∨i=1∨i=2∨i=3:=by omega
  ·cases hi;exact SX0 b' gd g D N u hl ((hG.cell 0).trans hg) hG.lt hN (hfit.less (by omega)) hc
  ·cases hi;exact OS0 b' gd g _ N u hl ((hG.cell 0).trans hg) hG.lt hN (f1.less (by omega)) c1
  ·cases hi;exact TW0 b' gd g p _ N cs u hl hG hg hg5 hN (f2.less (by omega)) c2 hp
  ·cases hi;exact OP0 b' gd g _ N u hl ((hG.cell 0).trans hg) hG.lt hN f3 c3
def XN0 (w:World) (b:List (Option Nat)) (gd g:Nat) (D':Dk) (cs:Array Value) (e:Ending) (w':World):Prop :=
 e = .returned (.int .i64 0)∧∃ b',DP w' b' gd D'∧Has w' g 181 cs∧Turn (b++[some g]) (b'++[some g]) w w'∧some g∉b'
theorem XE0 (b:List (Option Nat)) (gd g p:Nat) (D:Dk) (a1 a2 a3 a4 a6 a7 a8:Value) (w:World) (h:DP w b gd D) (hh:Has w g 181 #[.pointer (some ⟨gd,0,none⟩),a1,a2,a3,a4,.int .i64 p,a6,a7,a8]) (hgb:some g∉b) (hfit:Fit D 4) (hc:D.calm) (hp:p≤4611686018427387904) :
 Calls Tryz.prog 113 #[.pointer (some ⟨g,0,none⟩)] w (XN0 w b gd g (QQ0 D p 4) #[.pointer (some ⟨gd,0,none⟩),a1,a2,a3,a4,.int .i64 p,a6,.int .i64 0,.int .i64 1]):=by
 have HL:=Ac h;have HH:=Ac hh;have HO:=Ac hgb;have HF:=Ac hfit
 have W1:=Ac (show Has (w.alloc (.cells #[.pointer (some ⟨g,0,none⟩)] 97)) w.heap.size 97 #[.pointer (some ⟨g,0,none⟩)]∧Below w.heap.size w (w.alloc (.cells #[.pointer (some ⟨g,0,none⟩)] 97)) from ⟨Has.new _ _ _,(Below.refl _ _).alloc (Nat.le_refl _) _⟩)
 have gz:=hh.lt;clear h hh hgb hfit
 go_enter Tryz.func113,Tryz.ntmps113
 go_upto_region 1 with fail
 generalize w.alloc (.cells #[.pointer (some ⟨g,0,none⟩)] 97)=W at *
 have H1:=Ac (HL.out.below W1.out.2);have H2:=Ac (HH.out.Aj W1.out.2);have x0:=W1.out.1.cell 0;have x7:W.cell? ⟨g,7,none⟩=some a7:=H2.out.cell 7;have x8:W.cell? ⟨g,8,none⟩=some a8:=H2.out.cell 8;have xf:=H2.out.frozen;have xz:=H2.out.lt
 go_region
 all_goals
  have TS:=Ac (((Turn.cell g 7 (.int .i64 0) W).trans (Turn.cell g 8 (.int .i64 1) _)));have gb:=HO.out
  have D2:=Ac (H1.out.turn TS.out (fun k hk h3=>gb ((show k=g by simpa using hk) ▸ h3)))
  have G2:=Ac (show Has ((W.setCell ⟨g,7,none⟩ (.int .i64 0)).setCell ⟨g,8,none⟩ (.int .i64 1)) g 181 #[.pointer (some ⟨gd,0,none⟩),a1,a2,a3,a4,.int .i64 p,a6,.int .i64 0,.int .i64 1] from ((H2.out.set 7 _).set 8 _))
  have X2:=Ac (W1.out.1.turn TS.out (fun h3=>Nat.ne_of_gt gz (show w.heap.size=g by simpa using h3)))
  have y0:=X2.out.cell 0
  have CH:=Ac (EP0 b gd g p w.heap.size W.heap.size D #[.pointer (some ⟨gd,0,none⟩),a1,a2,a3,a4,.int .i64 p,a6,.int .i64 0,.int .i64 1] ((W.setCell ⟨g,7,none⟩ (.int .i64 0)).setCell ⟨g,8,none⟩ (.int .i64 1)) (by simp) D2.out G2.out rfl rfl X2.out HO.out (fun h3=>by have:=HL.out.lt h3;omega) HF.out hc hp)
  go_wp2_with (go_at_call 116;refine CH.out.mono ?_;rintro e w2 ⟨rfl,hH⟩;have HH2:=Ac hH;clear hH)
  go_ret
  obtain ⟨b',q1,q2,q3,q4⟩:=HH2.out
  have q5:Has w2 g 181 #[.pointer (some ⟨gd,0,none⟩),a1,a2,a3,a4,.int .i64 p,a6,.int .i64 0,.int .i64 1]:=q2 (g,_,_) (by simp [Ry])
  have q6:some g∉b':=q3 (g,181,#[.pointer (some ⟨gd,0,none⟩),a1,a2,a3,a4,.int .i64 p,a6,.int .i64 0,.int .i64 1]) (by simp [Ry])
  refine ⟨rfl,b',q1,q5, ?_,q6⟩
  exact ((Turn.below _ W1.out.2).trans (TS.out.right b)).trans (q4.left [some g])
theorem OB0 (b:List (Option Nat)) (gd g m1 m2:Nat) (R:Rw) (n:Int) (t:ByteArray) (bl bn bt:Nat) (w:World) (h:LR w b gd g m1 m2 R) (hl:Has w bl 97 #[.pointer (some ⟨g,0,none⟩)]) (hn:Has w bn 3 #[.int .i64 n]) (ht:Has w bt 9 #[.string t]) (hfit:Fit R.D 1) (hnf:R.nf≤100000) :
 Calls Tryz.prog 117 #[.pointer (some ⟨bl,0,none⟩),.pointer (some ⟨bn,0,none⟩),.pointer (some ⟨bt,0,none⟩)] w (Fa w b gd g m1 m2 (R.app n t) (R.UC0 n t)):=by
 have TP:=Ac (FG0 b gd g m1 m2 R n t w h hfit hnf);obtain ⟨E,hE⟩:∃ x,R.UC0 n t=x:=⟨_,rfl⟩;rw [hE] at TP ⊢;have x0:=hl.cell 0;have x1:=hn.cell 0;have x2:=ht.cell 0;clear hE h hl hn ht hfit
 go_enter Tryz.func117,Tryz.ntmps117
 go_wp2_with (go_at_call 98;(with_reducible refine TP.out.mono ?_);rintro e w2 ⟨rfl,hd2⟩;have HD:=Ac hd2;clear hd2)
 go_ret
 exact ⟨rfl,HD.out⟩
theorem NH0 (b:List (Option Nat)) (gd g m1 m2:Nat) (R:Rw) (p:Nat) (bl bp:Nat) (w:World) (h:LR w b gd g m1 m2 R) (hl:Has w bl 97 #[.pointer (some ⟨g,0,none⟩)]) (hpb:Has w bp 3 #[.int .i64 p]) (hfit:Fit R.D 2) (hs:R.slot<2) (hnum:R.number<4) (hf:R.nf≤4611686018427387904) (hp:p≤4611686018427387904) :
 Calls Tryz.prog 120 #[.pointer (some ⟨bl,0,none⟩),.pointer (some ⟨bp,0,none⟩)] w (Fa w b gd g m1 m2 (R.tell R.nf p) (R.Gl R.nf p)):=by
 have hd:=(Below.refl w.heap.size w).drew;have TP:=Ac (BU1 b gd g m1 m2 R R.nf p w.drew (h.below hd) hfit hs hnum hf hp);obtain ⟨E,hE⟩:∃ x,R.Gl R.nf p=x:=⟨_,rfl⟩;rw [hE] at TP ⊢;have x0:=hl.cell 0;have x1:=hpb.cell 0;have x2:w.cell? ⟨g,1,none⟩=some (.int .i64 R.nf):=h.has.cell 1;have gz:=h.has.lt;have HB:=Ac (Turn.below (b++lb g m1 m2) hd);clear hE h hl hpb hfit hd
 go_enter Tryz.func120,Tryz.ntmps120
 go_wp2_with fail
 go_region_with
  (go_at_call 121;(with_reducible refine TP.out.mono ?_);rintro e w2 ⟨rfl,hd2⟩;have HD:=Ac hd2;clear hd2)
 all_goals
  go_wp2_with fail
  go_ret
  obtain ⟨b',q1,q2⟩:=HD.out;exact ⟨rfl,b',q1,HB.out.trans q2⟩
theorem PM0 (R:Rw) (n:Int) (t:ByteArray):(R.app n t).slot=R.slot∧(R.app n t).number=R.number∧(R.app n t).nf≤R.nf+1∧(R.app n t).np=R.np∧(R.app n t).kf=R.kf∧(R.app n t).kp=R.kp:=by
 unfold Rw.app
 split
 ·split
  ·exact ⟨rfl,rfl,Nat.le_refl _,rfl,rfl,rfl⟩
  ·exact ⟨rfl,rfl,Nat.le_succ _,rfl,rfl,rfl⟩
 ·exact ⟨rfl,rfl,Nat.le_succ _,rfl,rfl,rfl⟩
theorem DA1 {R:Rw} {k:Nat} (h:Fit R.D (k+1)) (n:Int) (t:ByteArray):Fit (R.app n t).D k:=by
 unfold Rw.app
 split
 ·split
  ·exact h.write _ _ _
  ·exact h.write _ _ _
 ·exact h.less (by omega)
theorem IS0 (cs:Array Value) (u:World):(callFunc 117 cs).run Tryz.prog u = .ok (.enter 117 cs) u:=by kernel_rfl
theorem IT0 (cs:Array Value) (u:World):(callFunc 118 cs).run Tryz.prog u = .ok (.enter 118 cs) u:=by kernel_rfl
theorem IF0 (cs:Array Value) (u:World):(callFunc 120 cs).run Tryz.prog u = .ok (.enter 120 cs) u:=by kernel_rfl
def BI0 (N:Nat):List (FuncId×Array Value):=[(117,#[.pointer (some ⟨N,0,none⟩),.pointer (some ⟨N+1,0,none⟩),.pointer (some ⟨N+1+1,0,none⟩)]),(118,#[.pointer (some ⟨N,0,none⟩)]),(120,#[.pointer (some ⟨N,0,none⟩),.pointer (some ⟨N+1+1+1,0,none⟩)])]
def Kq (gs N g:Nat) (n:Int) (t:ByteArray) (p:Nat):List (Nat×TypeId×Array Value) :=
 [(gs,50,((BI0 N).map (fun x=>Value.func (.func x.1) #[] x.2)).toArray),(N,97,#[.pointer (some ⟨g,0,none⟩)]),(N+1,3,#[.int .i64 n]),(N+1+1,9,#[.string t]),(N+1+1+1,3,#[.int .i64 p])]
structure Xg (u:World) (N g:Nat) (n:Int) (t:ByteArray) (p:Nat):Prop where
 l:Has u N 97 #[.pointer (some ⟨g,0,none⟩)]
 n:Has u (N+1) 3 #[.int .i64 n]
 t:Has u (N+1+1) 9 #[.string t]
 p:Has u (N+1+1+1) 3 #[.int .i64 p]
theorem Oz {u:World} {gs N g:Nat} {n:Int} {t:ByteArray} {p:Nat} (h:ES0 u (Kq gs N g n t p)):Xg u N g n t p :=
 ⟨h (N,_,_) (by simp [Kq]),h (N+1,_,_) (by simp [Kq]),h (N+1+1,_,_) (by simp [Kq]),h (N+1+1+1,_,_) (by simp [Kq])⟩
theorem DL0 (b:List (Option Nat)) (gd g m1 m2:Nat) (R:Rw) (n:Int) (t:ByteArray) (p gs:Nat) (w wc:World) (h:LR w b gd g m1 m2 R) (hfit:Fit R.D 4) (hs:R.slot<2) (hnum:R.number<4) (hnf:R.nf≤100000) (hp:p≤4611686018427387904)
 (hb:Below w.heap.size w wc) (hgx:Has wc gs 50 ((BI0 w.heap.size).map (fun x=>Value.func (.func x.1) #[] x.2)).toArray) (hx:Xg wc w.heap.size g n t p) (hgs:w.heap.size≤gs) :
 Calls Tryz.prog 116 #[.slice (some ⟨gs,0,none⟩) 3 3] wc fun e w'=>e = .returned (.int .i64 (upTo (Cm R n t p) 3).2)∧Held w b gd g m1 m2 (Kq gs w.heap.size g n t p) (Io R n t p (upTo (Cm R n t p) 3).1) w':=by
 refine MC0 (BI0 w.heap.size) gs 3 w b gd g m1 m2 _ (Io R n t p) (Cm R n t p) 50 wc rfl (by omega) (by simp [Kq]) ⟨b,h.below hb, ?_, ?_,Turn.below _ hb⟩ ?_ ?_
 ·intro x hx2
  simp only [Kq,List.mem_cons,List.not_mem_nil,or_false] at hx2
  rcases hx2 with rfl | rfl | rfl | rfl | rfl
  ·exact hgx
  ·exact hx.l
  ·exact hx.n
  ·exact hx.t
  ·exact hx.p
 ·intro x hx2 h2
  have h3:=h.lt h2;simp only [Kq,List.mem_cons,List.not_mem_nil,or_false] at hx2
  rcases hx2 with rfl | rfl | rfl | rfl | rfl <;> simp only at h3 <;> omega
 ·intro i k cs hi u
  have h4:i<3:=(List.getElem?_eq_some_iff.1 hi).1
  obtain rfl | rfl | rfl:i=0∨i=1∨i=2:=by omega
  ·cases hi;exact IS0 _ _
  ·cases hi;exact IT0 _ _
  ·cases hi;exact IF0 _ _
 ·intro i k cs hi u b' hl hx2 ho hu
  have h4:i<3:=(List.getElem?_eq_some_iff.1 hi).1;have hB:=Oz hx2;obtain ⟨a1,a2,a3,_⟩:=PM0 R n t;have f1:Fit (R.app n t).D 3:=DA1 hfit n t;have f2:Fit ((R.app n t).D.sync 1) 2:=f1.sync _
  obtain rfl | rfl | rfl:i=0∨i=1∨i=2:=by omega
  ·cases hi
   exact OB0 b' gd g m1 m2 R n t _ _ _ u hl hB.l hB.n hB.t (hfit.less (by omega)) hnf
  ·cases hi
   exact (PH0 b' gd g m1 m2 (R.app n t) _ u hl hB.l (f1.less (by omega))).mono fun e w' hp=>Fa.XC0 (R:=R.app n t) hl hp
  ·cases hi
   exact NH0 b' gd g m1 m2 { R.app n t with D:=(R.app n t).D.sync 1 } p _ _ u hl hB.l hB.p f2 (a1 ▸ hs) (a2 ▸ hnum) (show (R.app n t).nf≤_ by omega) hp
section
variable {w0 w w':World} {b c:List (Option Nat)} {gd g m1 m2 m n:Nat} {R:Rw} {f:Int→Nat}
theorem LR.DO1 (h:LR w b gd g m1 m2 R) (ht:Turn c (b++lb g m1 m2) w0 w) (hm:MP w m n f) (hoff:some m∉b++lb g m1 m2) (hlow:w0.heap.size≤m) (p:Nat) :
 LR (((w.setCell ⟨g,4,none⟩ (.int .i64 n)).setCell ⟨g,5,none⟩ (.int .i64 p)).setCell ⟨g,6,none⟩ (.map (some m))) b gd g m1 m { R with kf:=n,kp:=p,f2:=f } ∧
 Turn c (b++lb g m1 m) w0 (((w.setCell ⟨g,4,none⟩ (.int .i64 n)).setCell ⟨g,5,none⟩ (.int .i64 p)).setCell ⟨g,6,none⟩ (.map (some m))):=by
 have t1:Turn [some g] [some g] w (((w.setCell ⟨g,4,none⟩ (.int .i64 n)).setCell ⟨g,5,none⟩ (.int .i64 p)).setCell ⟨g,6,none⟩ (.map (some m))):=((Turn.cell g 4 _ w).trans (Turn.cell g 5 _ _)).trans (Turn.cell g 6 _ _);have hg:some g∈b++lb g m1 m2:=List.mem_append_right _ (Lm.2 (.inl rfl))
 have hmg:m≠g:=by rintro rfl;exact hoff hg
 have hm1:m1≠m:=by rintro rfl;exact hoff (List.mem_append_right _ (Lm.2 (.inr (.inl rfl))))
 have hmb:some m∉b:=fun h2=>hoff (List.mem_append_left _ h2)
 refine ⟨⟨h.disk.turn t1 fun k hk h2=>?_,((h.has.set 4 _).set 5 _).set 6 _,h.map1.turn t1 fun h3=>h.ne1 (by simpa using h3:m1=g).symm,hm.turn t1 fun h3=>hmg (by simpa using h3),hm1,fun k hk h2=>?_⟩, ?_⟩
 ·have:k=g:=by simpa using hk
  subst this;exact h.off.1 h2
 ·rcases Lm.1 h2 with rfl | rfl | rfl
  ·exact h.off.1 hk
  ·exact h.off.2.1 hk
  ·exact hmb hk
 ·refine ht.trans' t1 (fun k hk=>?_) (fun k hk=>?_)
  ·have:k=g:=by simpa using hk
   subst this;exact hg
  ·rcases List.mem_append.1 hk with h2 | h2
   ·exact .inl (List.mem_append_left _ h2)
   ·rcases Lm.1 h2 with rfl | rfl | rfl
    ·exact .inl hg
    ·exact .inl (List.mem_append_right _ (Lm.2 (.inr (.inl rfl))))
    ·exact .inr hlow
end
theorem SS0 (R:Rw) (n:Int) (t:ByteArray) (p k:Nat):(Io R n t p k).nf≤R.nf+1:=by
 obtain ⟨_,_,a3,_⟩:=PM0 R n t;unfold Io
 split
 ·exact Nat.le_succ _
 ·exact a3
 ·exact a3
 ·rw [(KJ0 _ _ _).1];exact a3
def Zo (w:World) (g:Nat) (n:Int) (t:ByteArray) (p:Nat):World:=(((w.alloc (.cells #[.pointer (some ⟨g,0,none⟩)] 97)).alloc (.cells #[.int .i64 n] 3)).alloc (.cells #[.string t] 9)).alloc (.cells #[.int .i64 p] 3)
theorem NW0 (w:World) (g:Nat) (n:Int) (t:ByteArray) (p:Nat):Xg (Zo w g n t p) w.heap.size g n t p∧Below w.heap.size w (Zo w g n t p)∧(Zo w g n t p).heap.size=w.heap.size+4:=by
 have a1:=Has.new w 97 #[.pointer (some ⟨g,0,none⟩)];have a2:=Has.new (w.alloc (.cells #[.pointer (some ⟨g,0,none⟩)] 97)) 3 #[.int .i64 n];have a3:=Has.new ((w.alloc (.cells #[.pointer (some ⟨g,0,none⟩)] 97)).alloc (.cells #[.int .i64 n] 3)) 9 #[.string t];have a4:=Has.new (((w.alloc (.cells #[.pointer (some ⟨g,0,none⟩)] 97)).alloc (.cells #[.int .i64 n] 3)).alloc (.cells #[.string t] 9)) 3 #[.int .i64 p]
 rw [World.size_alloc] at a2;rw [World.size_alloc,World.size_alloc] at a3;rw [World.size_alloc,World.size_alloc,World.size_alloc] at a4
 exact ⟨⟨((a1.alloc _).alloc _).alloc _,(a2.alloc _).alloc _,a3.alloc _,a4⟩,((((Below.refl _ _).alloc (Nat.le_refl _) _).alloc (by simp) _).alloc (by simp;omega) _).alloc (by simp;omega) _,by simp [Zo]⟩
theorem RT0 (b:List (Option Nat)) (gd g m1 m2:Nat) (R:Rw) (n:Int) (t:ByteArray) (p:Int) (w:World) (h:LR w b gd g m1 m2 R) (hfit:Fit R.D 4) (hs:R.slot<2) (hnum:R.number<4) (hnf:R.nf≤100000) :
 Calls Tryz.prog 40 #[.pointer (some ⟨g,0,none⟩),.int .i64 n,.string t,.int .i64 p] w (JB0 w b gd g m1 m2 (R.Eu n t p) (.int .i64 (R.Gp n t p))):=by
 by_cases hp:1≤p∧p≤65536
 ·obtain ⟨q,rfl⟩:∃ q:Nat,p=q:=⟨p.toNat,(Int.toNat_of_nonneg (by omega)).symm⟩
  have r1:=Ac (show R.Eu n t q=if (upTo (Cm R n t q) 3).2=0 then { Io R n t q (upTo (Cm R n t q) 3).1 with np:=q,kf:=(Io R n t q (upTo (Cm R n t q) 3).1).nf,kp:=q,f2:=(Io R n t q (upTo (Cm R n t q) 3).1).f1 } else Io R n t q (upTo (Cm R n t q) 3).1 from if_pos hp)
  have r2:R.Gp n t q=(upTo (Cm R n t q) 3).2:=if_pos hp;rw [r2];have HB:=Ac (NW0 w g n t q)
  have d1:decide ((q:Int)<1)=false:=by simp;omega
  have d2:decide ((65536:Int)<(q:Int))=false:=by simp;omega
  have CH:=Ac (fun (W:World) (hW:Below w.heap.size w W) (hbx:Xg W w.heap.size g n t q)=>DL0 b gd g m1 m2 R n t q W.heap.size w (W.alloc (.cells ((BI0 w.heap.size).map (fun x=>Value.func (.func x.1) #[] x.2)).toArray 50)) h hfit hs hnum hnf (by omega) (hW.alloc hW.size _) (Has.new _ _ _) ⟨hbx.l.alloc _,hbx.n.alloc _,hbx.t.alloc _,hbx.p.alloc _⟩ hW.size)
  obtain ⟨E,hE⟩:∃ E,(upTo (Cm R n t q) 3).2=E:=⟨_,rfl⟩;have hC:=SS0 R n t q (upTo (Cm R n t q) 3).1;obtain ⟨C,hC2⟩:∃ C,Io R n t q (upTo (Cm R n t q) 3).1=C:=⟨_,rfl⟩;rw [hC2] at hC;rw [hE,hC2] at CH r1;rw [hE];have HL:=Ac h;have HQ:=Ac hp
  have HNF:=Ac (show C.nf≤1000000 by omega)
  clear hE hC hC2 h hfit hp r2 hnf
  go_enter Tryz.func40,Tryz.ntmps40
  go_upto_region 1 with fail
  rw [show (((w.alloc (.cells #[.pointer (some ⟨g,0,none⟩)] 97)).alloc (.cells #[.int .i64 n] 3)).alloc (.cells #[.string t] 9)).alloc (.cells #[.int .i64 q] 3)=Zo w g n t q from rfl]
  generalize Zo w g n t q=W at *
  obtain ⟨hbx,hbw,hsz⟩:=HB.out;have HBX:=Ac hbx;have HBW:=Ac hbw;have HSZ:=Ac hsz;have x0:=hbx.l.cell 0;have x3:=hbx.p.cell 0;have CW:=Ac (CH.out W hbw hbx);clear hbx hbw hsz HB CH
  have CP:=Ac (fun w1 (h1:MP w1 m1 C.nf C.f1)=>Zb m1 C.nf q C.nf C.f1 w1 HNF.out h1)
  go_wp2_with ((go_at_call 116;refine CW.out.mono ?_);rintro e w2 ⟨rfl,hH⟩;obtain ⟨b',hl,hx,ho,ht⟩:=hH;have HL2:=Ac hl;have HX:=Ac (Oz hx);have HT:=Ac ht;have HOG:=Ac (ho (w.heap.size,97,#[.pointer (some ⟨g,0,none⟩)]) (by simp [Kq]));have y0:=(Oz hx).l.cell 0;have y3:=(Oz hx).p.cell 0;obtain ⟨z1,z2,z3⟩:=hl.now;obtain ⟨z4,z5,z6⟩:=hl.old;have zf:=hl.has.frozen;have gz:=hl.has.lt;clear hl hx ho ht)
  ·have hE0:E=0:=by rename_i hE;simpa using hE
   have R1:=Ac (r1.out.trans (if_pos hE0))
   have HS:=Ac (HL2.out.set 2 (.int .i64 q) { C with np:=q } rfl rfl HL2.out.map1 HL2.out.map2)
   have HY:=Ac (HX.out.l.far (p:=⟨g,2,none⟩) (fun e=>HOG.out (by rw [e];exact List.mem_append_right _ (Lm.2 (.inl rfl)))) (.int .i64 q))
   clear y0 y3 z1 z2 z3 z4 z5 z6 zf gz x0 x3 CW
   generalize w2.setCell ⟨g,2,none⟩ (.int .i64 q)=V at *
   have y0:=HY.out.cell 0;have LV:=Ac HS.out.1;obtain ⟨z1,z2,z3⟩:=LV.out.now;obtain ⟨z4,z5,z6⟩:=LV.out.old;have zf:=LV.out.has.frozen;have gz:=LV.out.has.lt;have LD:=Ac (LV.out.below (Below.refl _ _).drew);have YD:=Ac (HY.out.Aj (Below.refl _ _).drew)
   go_region_with ((go_at_call 115;refine (CP.out _ LD.out.map1).mono ?_);rintro e w3 ⟨m,rfl,hm,hlow,hb⟩;have HM:=Ac hm;have HW:=Ac hlow;have HB:=Ac hb;have c1:=(LD.out.below hb).old;have y1:=(LD.out.below hb).has.lt;have yf:=(LD.out.below hb).has.frozen;have yl:=(YD.out.Aj hb).cell 0;clear hm hlow hb;obtain ⟨c1,c2,c3⟩:=c1)
   all_goals
    go_wp2_with fail
    go_ret
    have H3:=LD.out.below HB.out;have hv:Turn (b'++lb g m1 m2) (b'++lb g m1 m2) V V.drew:=Turn.below _ (Below.refl _ _).drew
    obtain ⟨h4,t4⟩:=H3.DO1 (hv.trans (Turn.below _ HB.out)) HM.out (fun h3=>by have:=LD.out.lt h3;have:=HW.out;omega) HW.out q
    rw [hE0,R1.out];exact ⟨rfl,b',m1,m,h4,(HT.out.trans HS.out.2).trans t4⟩
  ·have hE0:E≠0:=by rename_i hE;simpa using hE
   go_ret
   rw [r1.out,if_neg hE0];exact ⟨rfl,b',m1,m2,HL2.out,HT.out⟩
 ·have r1:R.Eu n t p=R:=if_neg hp
  have r2:R.Gp n t p=1:=if_neg hp;rw [r1,r2];have HL:=Ac h;clear h hfit
  by_cases h1:1≤p
  ·have d1:decide (p<1)=false:=by simp;omega
   have d2:decide ((65536:Int)<p)=true:=by simp;omega
   clear hp h1 hs hnum hnf
   go_enter Tryz.func40,Tryz.ntmps40
   go_wp2_with fail
   go_ret
   refine ⟨rfl,b,m1,m2,HL.out.below ?_,Turn.below _ ?_⟩ <;> exact ((((Below.refl _ _).alloc (Nat.le_refl _) _).alloc (by simp) _).alloc (by simp;omega) _).alloc (by simp;omega) _
  ·have d1:decide (p<1)=true:=by simp;omega
   clear hp h1 hs hnum hnf
   go_enter Tryz.func40,Tryz.ntmps40
   go_wp2_with fail
   go_ret
   refine ⟨rfl,b,m1,m2,HL.out.below ?_,Turn.below _ ?_⟩ <;> exact ((((Below.refl _ _).alloc (Nat.le_refl _) _).alloc (by simp) _).alloc (by simp;omega) _).alloc (by simp;omega) _
end Go.Proofs.YtjihboddejaelaaGreat
