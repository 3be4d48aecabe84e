/-
  Checkpoint of package wal: what it hands on to done; what a round of its loop keeps.
-/
import Derived.Test.YtjihboddejaelaaGreatTs1
import Derived.Test.YtjihboddejaelaaGreatTs5
import Derived.Test.YtjihboddejaelaaGreatTs4
import Derived.Test.YtjihboddejaelaaGreatTs3
import Derived.Lib.Builder
set_option linter.unusedVariables false
set_option linter.unusedSimpArgs false
set_option maxRecDepth 100000
set_option maxHeartbeats 100000000
namespace Go.Proofs.YtjihboddejaelaaGreat
open Go.RowKit Go.BigFrame Go.Maps


end Go.Proofs.YtjihboddejaelaaGreat
namespace Go.Proofs.YtjihboddejaelaaGreat
open Go.RowKit Go.BigFrame
def CK0 (g e h t:Nat) (P:Pl):Array Value:=#[Cc g,.int .i64 P.most,Cc e,.map (some h),.int .i64 P.pages,.int .i64 P.free,.map (some t),.int .i64 P.hits,.int .i64 P.misses,.int .i64 P.spills]
def Fb:List Nat→List Pf→Int→Option Nat
 | a :: A,f :: F,x=>if (f.n:Int)=x then some a else Fb A F x
 | _,_,_=>none
def Tv (T:List Nat) (x:Int):Option Nat:=if ∃ n∈T,(n:Int)=x then some 1 else none
def pb (p e h t:Nat) (A:List Nat):List (Option Nat):=(p :: e :: h :: t :: A).map some
def allB (b:List (Option Nat)) (g m1 m2 p e h t:Nat) (A:List Nat):List (Option Nat):=(b++lb g m1 m2)++pb p e h t A
theorem Ia {p e h t k:Nat} {A:List Nat}:some k∈pb p e h t A↔k=p∨k=h∨k=t∨k∈e :: A:=by
 unfold pb;simp only [List.mem_map,List.mem_cons,Option.some.injEq,exists_eq_right]
 constructor
 ·rintro (h | h | h | h | h) <;> simp [h]
 ·rintro (h | h | h | h | h) <;> simp [h]
structure PM (w:World) (b:List (Option Nat)) (gd g m1 m2 p e h t:Nat) (A:List Nat) (P:Pl):Prop where
 log:LR w b gd g m1 m2 P.L.rw
 has:Has w p 106 (CK0 g e h t P)
 ring:Ring w e A P.ring
 held:GM Tm w h (Fb A P.ring) P.ring.length
 turned:GM (plainElem Tryz.prog 3) w t (Tv P.turned) P.turned.length
 hp:p∉e :: A
 ht:h≠t
 off:QR0 (b++lb g m1 m2) (pb p e h t A)
structure Pl.ok (P:Pl):Prop where
 log:P.L.ok
 names:(P.ring.map (·.n)).Nodup
 pages:∀ f∈P.ring,f.n<P.pages
 size:∀ f∈P.ring,f.s.size=1024
 most:P.most≤64
 full:P.ring.length≤P.most
 few:P.pages≤65536
 link:P.free≤2147483647
 turnd:P.turned.Nodup
 turns:∀ x∈P.turned,x<P.pages
theorem Iq:∀ {A:List Nat} {F:List Pf} {x:Int},(∀ f∈F,(f.n:Int)≠x)→Fb A F x=none
 | [],_,_,_=>by cases ‹List Pf› <;> rfl
 | _ :: _,[],_,_=>rfl
 | a :: A,f :: F,x,h=>by
   rw [Fb,if_neg (h f (List.mem_cons_self ..))]
   exact Iq fun g hg=>h g (List.mem_cons_of_mem _ hg)
theorem Jc:∀ {A1 A2:List Nat} {F1 F2:List Pf} {x:Int},A1.length=F1.length→Fb (A1++A2) (F1++F2) x=(Fb A1 F1 x).or (Fb A2 F2 x)
 | [],A2,[],F2,x,_=>by simp [Fb]
 | a :: A1,A2,f :: F1,F2,x,h=>by
   rw [List.cons_append,List.cons_append,Fb,Fb]
   by_cases hx:(f.n:Int)=x
   ·rw [if_pos hx,if_pos hx];rfl
   ·rw [if_neg hx,if_neg hx];exact Jc (by simpa using h)
 | [],_,_ :: _,_,_,h=>by simp at h
 | _ :: _,_,[],_,_,h=>by simp at h
theorem Iu {F1 F2:List Pf} {f:Pf} (h:((F1++f :: F2).map (·.n)).Nodup):(∀ g∈F1,(g.n:Int)≠(f.n:Int))∧(∀ g∈F2,(g.n:Int)≠(f.n:Int))∧((F1++F2).map (·.n)).Nodup:=by
 rw [List.map_append,List.map_cons,List.nodup_append,List.nodup_cons] at h;obtain ⟨h1,⟨h2,h3⟩,h4⟩:=h
 refine ⟨fun g hg e=>?_,fun g hg e=>?_, ?_⟩
 ·exact h4 g.n (List.mem_map.2 ⟨g,hg,rfl⟩) f.n (List.mem_cons_self ..) (by omega)
 ·exact h2 (List.mem_map.2 ⟨g,hg,by omega⟩)
 ·rw [List.map_append,List.nodup_append]
  exact ⟨h1,h3,fun x hx y hy=>h4 x hx y (List.mem_cons_of_mem _ hy)⟩
theorem KM0 {A1 A2:List Nat} {a:Nat} {F1 F2:List Pf} {f:Pf} (h:((F1++f :: F2).map (·.n)).Nodup) (hl:A1.length=F1.length):Fb (A1++a :: A2) (F1++f :: F2) f.n=some a:=by
 rw [Jc hl,Iq (Iu h).1,Fb,if_pos rfl];rfl
theorem TL0 {A1 A2:List Nat} {a:Nat} {F1 F2:List Pf} {f:Pf} (h:((F1++f :: F2).map (·.n)).Nodup) (hl:A1.length=F1.length) (x:Int) :
 Fb (A1++A2) (F1++F2) x=if x=f.n then none else Fb (A1++a :: A2) (F1++f :: F2) x:=by
 obtain ⟨h1,h2,_⟩:=Iu h
 by_cases hx:x=f.n
 ·subst hx
  rw [if_pos rfl,Jc hl,Iq h1,Iq h2];rfl
 ·rw [if_neg hx,Jc hl,Jc hl]
  congr 1
  rw [Fb,if_neg (fun e=>hx e.symm)]
theorem PD0 {A:List Nat} {a:Nat} {F:List Pf} {f:Pf} (hl:A.length=F.length) (h:∀ g∈F,(g.n:Int)≠(f.n:Int)) (x:Int) :
 Fb (A++[a]) (F++[f]) x=if x=f.n then some a else Fb A F x:=by
 rw [Jc hl]
 by_cases hx:x=f.n
 ·subst hx
  rw [if_pos rfl,Iq h];simp [Fb]
 ·rw [if_neg hx]
  have:Fb [a] [f] x=none:=by rw [Fb,if_neg (fun e=>hx e.symm)];rfl
  rw [this]
  cases Fb A F x <;> rfl
theorem Sv {F1 F2:List Pf} {f:Pf} (h:((F1++f :: F2).map (·.n)).Nodup):Oi f.n (F1++f :: F2)=F1++F2:=by
 obtain ⟨h1,h2,_⟩:=Iu h;unfold Oi
 rw [List.filter_append,List.filter_cons,if_neg (by simp)]
 congr 1
 ·exact List.filter_eq_self.2 fun g hg=>by have:=h1 g hg;simp;omega
 ·exact List.filter_eq_self.2 fun g hg=>by have:=h2 g hg;simp;omega
theorem UU0 {F:List Pf} (h:∀ f∈F,f.pins≠0):idle F=none:=List.find?_eq_none.2 fun f hf=>by simpa using h f hf
theorem CT1 {F1 F2:List Pf} {f:Pf} (h:∀ g∈F1,g.pins≠0) (hf:f.pins=0):idle (F1++f :: F2)=some f:=by
 unfold idle
 rw [List.find?_append,List.find?_eq_none.2 (fun g hg=>by simpa using h g hg),List.find?_cons]
 simp [hf]
theorem Zc {F:List Pf} {x:Int} {f:Pf} (h:NU0 x F=some f):∃ F1 F2,F=F1++f :: F2∧(f.n:Int)=x∧∀ g∈F1,(g.n:Int)≠x:=by
 unfold NU0 at h;obtain ⟨h1,F1,F2,h2,h3⟩:=List.find?_eq_some_iff_append.1 h
 exact ⟨F1,F2,h2,by simpa using h1,fun g hg=>by simpa using h3 g hg⟩
theorem Yi {F:List Pf} {x:Int} (h:NU0 x F=none):∀ f∈F,(f.n:Int)≠x:=fun f hf=>by
 have:=List.find?_eq_none.1 h f hf
 simpa using this
section
variable {w w':World} {b b':List (Option Nat)} {gd g m1 m2 m1' m2' p e h t:Nat} {A A1 A2:List Nat} {a:Nat} {P:Pl}
theorem PM.ltp (H:PM w b gd g m1 m2 p e h t A P):∀ k,some k∈pb p e h t A→k<w.heap.size:=fun k hk=>by
 rcases Ia.1 hk with rfl | rfl | rfl | hk
 ·exact H.has.lt
 ·exact H.held.lt
 ·exact H.turned.lt
 ·exact H.ring.lt k hk
theorem PM.lt (H:PM w b gd g m1 m2 p e h t A P):∀ k,some k∈allB b g m1 m2 p e h t A→k<w.heap.size:=fun k hk=>by
 rcases List.mem_append.1 hk with hk | hk
 ·exact H.log.lt hk
 ·exact H.ltp k hk
theorem PM.below (H:PM w b gd g m1 m2 p e h t A P) (hb:Below w.heap.size w w'):PM w' b gd g m1 m2 p e h t A P :=
 ⟨H.log.below hb,H.has.Aj hb,H.ring.below hb,H.held.below hb,H.turned.below hb,H.hp,H.ht,H.off⟩
theorem PM.far {x x':List (Option Nat)} (H:PM w b gd g m1 m2 p e h t A P) (ht:Turn x x' w w') (hd:∀ k,some k∈x→some k∉allB b g m1 m2 p e h t A):PM w' b gd g m1 m2 p e h t A P:=by
 have hk:∀ k,some k∈allB b g m1 m2 p e h t A→w'.heap[k]? = w.heap[k]? := fun k hk=>ht.block k (H.lt k hk) (fun h2=>hd k h2 hk)
 have hq:∀ k,k=p∨k=h∨k=t∨k∈e :: A→w'.heap[k]? = w.heap[k]? := fun k hk2=>hk k (List.mem_append_right _ (Ia.2 hk2))
 exact ⟨H.log.far ht (fun k h1 h2=>hd k h1 (List.mem_append_left _ h2)),(hq p (.inl rfl)).trans H.has,H.ring.kept (fun k hk2=>hq k (.inr (.inr (.inr hk2)))),H.held.block (hq h (.inr (.inl rfl))),H.turned.block (hq t (.inr (.inr (.inl rfl)))),H.hp,H.ht,H.off⟩
theorem PM.FO1 {L':Lg} (H:PM w b gd g m1 m2 p e h t A P) (hl:LR w' b' gd g m1' m2' L'.rw) (ht:Turn (b++lb g m1 m2) (b'++lb g m1' m2') w w') :
 PM w' b' gd g m1' m2' p e h t A { P with L:=L' }∧Turn (allB b g m1 m2 p e h t A) (allB b' g m1' m2' p e h t A) w w':=by
 have hq:∀ k,k=p∨k=h∨k=t∨k∈e :: A→w'.heap[k]? = w.heap[k]? := fun k hk2=>ht.block k (H.ltp k (Ia.2 hk2)) (fun h2=>H.off k h2 (Ia.2 hk2))
 exact ⟨⟨hl,(hq p (.inl rfl)).trans H.has,H.ring.kept (fun k hk2=>hq k (.inr (.inr (.inr hk2)))),H.held.block (hq h (.inr (.inl rfl))),H.turned.block (hq t (.inr (.inr (.inl rfl)))),H.hp,H.ht,YM0 H.off ht H.ltp⟩,ht.left _⟩
theorem PM.set {P':Pl} (H:PM w b gd g m1 m2 p e h t A P) (i:Nat) (v:Value) (hc:(CK0 g e h t P).setIfInBounds i v=CK0 g e h t P') (h1:P'.L=P.L) (h2:P'.ring=P.ring) (h3:P'.turned=P.turned) :
 PM (w.setCell ⟨p,i,none⟩ v) b gd g m1 m2 p e h t A P'∧Turn (allB b g m1 m2 p e h t A) (allB b g m1 m2 p e h t A) w (w.setCell ⟨p,i,none⟩ v):=by
 have hm:some p∈pb p e h t A:=Ia.2 (.inl rfl);have ht:=Ez [some p] p i v w (List.mem_singleton.2 rfl)
 have hph:¬ h=p:=fun x=>by subst x;exact H.held.Fp H.has
 have hpt:¬ t=p:=fun x=>by subst x;exact H.turned.Fp H.has
 refine ⟨⟨?_,hc ▸ H.has.set i v, ?_, ?_, ?_,H.hp,H.ht,H.off⟩,Ez _ p i v w (List.mem_append_right _ hm)⟩
 ·rw [h1];exact H.log.far ht (fun k h5 h6=>by cases List.mem_singleton.1 h5;exact H.off p h6 hm)
 ·rw [h2];exact H.ring.kept fun x hx=>Below.heap_setCell _ _ _ _ (fun y=>H.hp (by rw [show p=x from y.symm];exact hx))
 ·rw [h2];exact H.held.far hph v
 ·rw [h3];exact H.turned.far hpt v
end
end Go.Proofs.YtjihboddejaelaaGreat
namespace Go.Proofs.YtjihboddejaelaaGreat
open Go.RowKit
theorem VX0 {L:Lg} {x:Int} (h:L.rw.Ej x=0):L.D.down=false:=by
 cases hd:L.D.down
 ·rfl
 ·exfalso
  have h1:∀ f a n,L.rw.D.Ej f a n=0→False:=fun f a n h=>by
   unfold Dk.Ej at h;simp [Lg.rw,hd] at h
   first | (split at h <;> simp_all) | simp_all
  have h2:L.rw.D.Si 0≠0:=by
   unfold Dk.Si;simp [Lg.rw,hd]
  unfold Rw.Ej at h
  by_cases h3:0≤x∧x≤2147483647
  ·rw [if_pos h3] at h
   by_cases h4:L.rw.f1 x≠0
   ·rw [if_pos h4] at h;exact h1 _ _ _ h
   ·rw [if_neg h4,if_pos h2] at h;exact h2 h
  ·rw [if_neg h3] at h;cases h
theorem LH0 {L:Lg} (ok:L.ok) {x:Int} (h:L.rw.Ej x=0):(L.rw.Gy x).size=1024:=by
 have hd:=VX0 h;obtain ⟨e1,e2⟩:=XZ0 ok hd x;rw [← e1];rw [← e2] at h;unfold Lg.Ej at h;unfold Lg.Gy
 split at h
 ·rename_i hx
  rw [if_pos ⟨hx.1,hx.2,hd⟩]
  rw [if_neg (by rw [hd];simp)] at h
  split at h
  ·rename_i hl
   rw [if_pos hl]
   have hlt:Bc L.fs x-1<L.fs.length:=by have:=Ye L.fs x;omega
   rw [List.getElem?_eq_getElem hlt];exact (ok.frames _ (List.getElem_mem hlt)).2
  ·rename_i hl
   rw [if_neg hl]
   split at h
   ·rename_i hs
    rw [if_pos hs,Bv,Aw];simp only [List.length_take,List.length_drop];have:(x.toNat:Int)=x:=Int.toNat_of_nonneg hx.1;omega
   ·cases h
 ·cases h
theorem Og {K L:Nat} (h1:1≤K) (h2:K≤5) (h3:L≤2147483647) {cs:List ByteArray} (h4:Be cs≤1012):(Dc K L cs).size=1024:=by
 unfold Dc
 rw [if_neg (by omega),Bv]
 exact Yo h4
section
variable {P:Pl}
theorem Pl.ok.sub (ok:P.ok) {F:List Pf} (h:F.Sublist P.ring) {L':Lg} (hl:L'.ok) (s:Int):({ P with ring:=F,L:=L',spills:=s }:Pl).ok :=
 ⟨hl,(h.map _).nodup ok.names,fun f hf=>ok.pages f (h.subset hf),fun f hf=>ok.size f (h.subset hf),ok.most,Nat.le_trans h.length_le ok.full,ok.few,ok.link,ok.turnd,ok.turns⟩
theorem Kz (x:Nat) (F:List Pf):(Oi x F).Sublist F:=List.filter_sublist
theorem QC0 (ok:P.ok) (f:Pf):(P.Ht f).1.ok:=by
 unfold Pl.Ht
 split
 ·split
  ·exact ok.sub (Kz _ _) (Om ok.log _ _) _
  ·exact ok.sub (List.Sublist.refl _) (Om ok.log _ _) _
 ·exact ok.sub (Kz _ _) ok.log _
theorem UW0 (ok:P.ok) {f:Pf} (hf:f∈P.ring) (h:(P.Ht f).2=0):(P.Ht f).1.ring.length+1=P.ring.length:=by
 have hd:(Oi f.n P.ring).length+1=P.ring.length:=by
  obtain ⟨F1,F2,e⟩:=List.append_of_mem hf;have nm:=ok.names;rw [e] at nm ⊢;rw [Sv nm];simp;omega
 unfold Pl.Ht at h ⊢
 split
 ·rename_i h1
  rw [if_pos h1] at h
  split
  ·exact hd
  ·rename_i h2
   rw [if_neg h2] at h;exact absurd h h2
 ·exact hd
theorem ED0 (ok:P.ok):P.room.1.ok∧(P.room.2=0→P.room.1.ring.length<P.most):=by
 unfold Pl.room
 split
 ·rename_i h;exact ⟨ok,fun _=>h⟩
 ·rename_i h
  split
  ·exact ⟨ok,fun h=>by cases h⟩
  ·rename_i f hf
   refine ⟨QC0 ok f,fun h2=>?_⟩
   have hm:f∈P.ring:=List.mem_of_find?_eq_some hf;have:=UW0 ok hm h2;have:=ok.full;omega
theorem RV0 (f:Pf):(P.Ht f).1.most=P.most∧(P.Ht f).1.pages=P.pages∧(P.Ht f).1.free=P.free∧(P.Ht f).1.turned=P.turned∧∀ x∈(P.Ht f).1.ring,x∈P.ring:=by
 unfold Pl.Ht
 split
 ·split <;> exact ⟨rfl,rfl,rfl,rfl,fun x hx=>by first | exact (Kz _ _).subset hx | exact hx⟩
 ·exact ⟨rfl,rfl,rfl,rfl,fun x hx=>(Kz _ _).subset hx⟩
theorem Kv:P.room.1.most=P.most∧P.room.1.pages=P.pages∧P.room.1.free=P.free∧P.room.1.turned=P.turned∧∀ x∈P.room.1.ring,x∈P.ring:=by
 unfold Pl.room
 split
 ·exact ⟨rfl,rfl,rfl,rfl,fun x hx=>hx⟩
 ·split
  ·exact ⟨rfl,rfl,rfl,rfl,fun x hx=>hx⟩
  ·exact RV0 _
theorem PI0 (ok:P.ok) {f:Pf} (hn:∀ g∈P.ring,(g.n:Int)≠(f.n:Int)) (hp:f.n<P.pages) (hs:f.s.size=1024) (hl:P.ring.length<P.most) (h m:Int):({ P with ring:=P.ring++[f],hits:=h,misses:=m }:Pl).ok:=by
 refine ⟨ok.log, ?_,fun g hg=>?_,fun g hg=>?_,ok.most, ?_,ok.few,ok.link,ok.turnd,ok.turns⟩
 ·show ((P.ring++[f]).map _).Nodup
  rw [List.map_append,List.nodup_append]
  refine ⟨ok.names,by simp,fun x hx y hy e=>?_⟩
  obtain ⟨g,hg,rfl⟩:=List.mem_map.1 hx
  have:y=f.n:=by simpa using hy
  exact hn g hg (by omega)
 ·rcases List.mem_append.1 hg with hg | hg
  ·exact ok.pages g hg
  ·rw [List.mem_singleton.1 hg];exact hp
 ·rcases List.mem_append.1 hg with hg | hg
  ·exact ok.size g hg
  ·rw [List.mem_singleton.1 hg];exact hs
 ·show (P.ring++[f]).length≤_
  rw [List.length_append,List.length_singleton];exact hl
theorem AF0 (ok:P.ok) (x:Int):(P.get x).1.ok:=by
 unfold Pl.get
 split
 ·rename_i hx
  split
  ·rename_i f hf
   obtain ⟨F1,F2,e,h1,h2⟩:=Zc hf;have nm:=ok.names;rw [e] at nm
   have hd:Oi f.n P.ring=F1++F2:=by rw [e];exact Sv nm
   obtain ⟨n1,n2,_⟩:=Iu nm
   have hm:f∈P.ring:=by rw [e];exact List.mem_append_right _ (List.mem_cons_self ..)
   have ok2:({ P with ring:=Oi f.n P.ring }:Pl).ok:=ok.sub (Kz _ _) ok.log _
   refine PI0 ok2 (fun g hg=>?_) (ok.pages f hm) (ok.size f hm) ?_ _ _
   ·rw [show ({ P with ring:=Oi f.n P.ring }:Pl).ring=F1++F2 from hd] at hg
    rcases List.mem_append.1 hg with hg | hg
    ·exact n1 g hg
    ·exact n2 g hg
   ·show (Oi f.n P.ring).length<P.most
    have:=ok.full;rw [hd];rw [e] at this;simp at this ⊢;omega
  ·rename_i hf
   split
   ·rename_i hr
    obtain ⟨r1,r2⟩:=ED0 ok;have r3:=r2 hr;unfold Pl.fetch
    split
    ·rename_i hE
     obtain ⟨s1,s2,s3,s4,s5⟩:=Kv (P:=P)
     refine PI0 r1 (fun g hg=>?_) ?_ (LH0 r1.log hE) (by rw [s1];exact r3) _ _
     ·have:=Yi hf g (s5 g hg)
      show (g.n:Int)≠(x.toNat:Int)
      omega
     ·show x.toNat<P.room.1.pages
      rw [s2];omega
    ·exact r1
   ·exact (ED0 ok).1
 ·exact ok
end
def Vm (l1:List UInt8) (T:List Fr→Nat→Prop):Prop:=Bj l1≠2∧T (Eb l1 (Ap l1 (Bj l1)).2.1) (Ap l1 (Bj l1)).2.2∧NZ0 l1
theorem Vm.of {l1:List UInt8} {T:List Fr→Nat→Prop} {sl N f p:Nat} {fs:List Fr} (h:Bj l1=sl∧Ap l1 sl=(N,f,p)∧Eb l1 f=fs) (hs:sl<2) (hk:T fs p) (hf:NZ0 l1):Vm l1 T:=by
 obtain ⟨h1,h2,h3⟩:=h;unfold Vm;rw [h1,h2];dsimp only;rw [h3]
 exact ⟨by omega,hk,hf⟩
theorem CA0 {L:Lg} (h:Safe L) {T:List Fr→Nat→Prop} (hk:T (L.fs.take L.kept) L.pages) (keep:List Int):Vm (L.D.Fj keep).l1 T:=.of (Qz h keep).2 h.ok.slot hk (DE0 h keep)
theorem UH0 {L:Lg} (h:Safe L) (S:∀ keep,Gz (L.settle (L.D.Fj keep).l1)) (h64:∀ keep,64≤(L.D.Fj keep).l1.length) {f p:Nat} (hf:f≤L.fs.length) (hp:p<4294967296) {T U:List Fr→Nat→Prop} (hK:T (L.fs.take L.kept) L.pages) (hM:U (L.fs.take f) p) :
 (L.Gl f p=0→Gz (L.tell f p)∧(L.tell f p).fs=L.fs∧(L.tell f p).kept=f∧(L.tell f p).pages=p) ∧
 (L.Gl f p≠0→(L.tell f p).D.down=true∧∀ keep,Vm ((L.tell f p).D.Fj keep).l1 T∨Vm ((L.tell f p).D.Fj keep).l1 U):=by
 have hs:=h.ok.slot;have eD:=Xq hs f p;have e1c:(L.D.Fj [1]).l1=L.D.seen 1:=Ut _ _ _ _
 by_cases h1:L.D.stops
 ·have eE:L.Gl f p=2:=if_pos h1
  have eT:L.tell f p={ L with D:=L.Bi f p }:=if_pos h1
  have eC:L.Bi f p=L.D.turn:=by rw [eD];exact if_pos h1
  have hdn:L.D.turn.down=true:=by unfold Dk.turn;rw [if_pos h1]
  refine ⟨fun h2=>(by rw [eE] at h2;cases h2),fun _=>?_⟩
  rw [eT,eC]
  refine ⟨hdn,fun keep=>.inl ?_⟩
  show Vm (L.D.turn.Fj keep).l1 T
  rw [(Zd L.D keep).2];exact CA0 h hK keep
 ·have eE:L.Gl f p=(L.Bi f p).Ec:=if_neg h1
  by_cases h2:(L.Bi f p).stops
  ·have eE2:L.Gl f p=2:=eE.trans (if_pos h2)
   have eT:L.tell f p={ L with D:=(L.Bi f p).sync 1 }:=(if_neg h1).trans (if_pos h2)
   have eY:(L.Bi f p).sync 1=(L.Bi f p).turn:=by
    unfold Dk.sync
    rw [if_pos (by decide),if_pos h2]
   have hdn:(L.Bi f p).turn.down=true:=by unfold Dk.turn;rw [if_pos h2]
   refine ⟨fun h3=>(by rw [eE2] at h3;cases h3),fun _=>?_⟩
   rw [eT,eY]
   refine ⟨hdn,fun keep=>?_⟩
   show Vm ((L.Bi f p).turn.Fj keep).l1 T∨Vm ((L.Bi f p).turn.Fj keep).l1 U
   rw [(Zd (L.Bi f p) keep).2]
   have w1:(L.Bi f p).l1=L.D.l1:=by rw [eD];exact (Iz _ _).2.1
   have w2:(L.Bi f p).waits=L.D.waits++[DD0 L f p]:=by
    rw [eD];unfold Dk.change;rw [if_neg h1]
   have z1:((L.Bi f p).Fj keep).l1=Jq (DD0 L f p) (CJ1 keep (0+L.D.waits.length)) (L.D.Fj keep).l1 1:=by
    show Gv keep (L.Bi f p).waits 0 1 (L.Bi f p).l1=_
    rw [w2,w1,Yq]
    rfl
   rw [z1];have mo:=DC1 (S keep) (h64 keep) hf hp (CJ1 keep (0+L.D.waits.length))
   rcases mo with mo | mo
   ·exact .inl (.of mo hs hK (KZ0 (S keep) (h64 keep) hf hp _))
   ·exact .inr (.of mo (by show 1-L.slot<2;omega) hM (KZ0 (S keep) (h64 keep) hf hp _))
  ·have eE2:L.Gl f p=0:=eE.trans (if_neg h2)
   refine ⟨fun _=>?_,fun h3=>absurd eE2 h3⟩
   obtain ⟨t1,t2,t3⟩:=PE0 h f p h1 h2;have S1:=S [1];rw [e1c] at S1;have h641:=h64 [1];rw [e1c] at h641;have sy:=KF0 S1 h641 hf hp t2 t3
   have b:(L.settle (L.D.seen 1)).tell f p={ L with D:=((L.settle (L.D.seen 1)).Bi f p).sync 1,slot:=1-L.slot,number:=L.number % 3+1,kept:=f,pages:=p }:=(if_neg t2).trans (if_neg t3)
   rw [t1]
   refine ⟨sy, ?_⟩
   rw [b];exact ⟨rfl,rfl,rfl⟩
structure Bk where
 q:Nat
 K:Nat→ByteArray
def CQ1 (fs:List Fr) (n:Nat) (t:ByteArray):Prop:=Bc fs n≠0∧(fs[Bc fs n-1]?).map (·.text)=some t
theorem YD0 {fs:List Fr} {n:Nat} {t:ByteArray}:CQ1 (fs++[⟨n,t⟩]) n t:=by
 unfold CQ1;rw [Nv,if_pos rfl]
 refine ⟨by omega, ?_⟩
 rw [show fs.length+1-1=fs.length by omega,List.getElem?_append_right (Nat.le_refl _),Nat.sub_self]
 rfl
theorem Zj {L:Lg} (hlen:L.fs.length≤60000) {n:Nat} (hn:n≤65536) {t:ByteArray} (ht:t.size=1024) :
 L.Dq n t=L.D.Ec∧L.append n t={ L with D:=L.D.change ⟨1,L.at_,bsOf (Fr.bytes ⟨n,t⟩),false⟩,fs:=if L.D.stops then L.fs else L.fs++[⟨n,t⟩] }:=by
 have hf:L.NS0 n t:=⟨by omega,by omega,ht⟩
 have hat:L.at_=64+1028*L.fs.length:=rfl
 have hfit:L.at_+1028≤67108864:=by omega
 have hb:=Fr.Gx ⟨n,t⟩ ht
 have hw:Lr (1:Nat) (L.at_:Nat) (bsOf (Fr.bytes ⟨n,t⟩)).size:=Qm.2 ⟨by omega,by rw [Bv];omega⟩
 refine ⟨(if_pos hf).trans (if_pos hfit),(if_pos ⟨hf,hfit⟩).trans ?_⟩
 have e:L.D.write 1 L.at_ (bsOf (Fr.bytes ⟨n,t⟩))=L.D.change ⟨1,L.at_,bsOf (Fr.bytes ⟨n,t⟩),false⟩:=by
  refine (if_pos hw).trans ?_
  rw [Int.toNat_natCast];rfl
 rw [Int.toNat_natCast,e]
section
variable {L:Lg} {B C:Bk}
end
variable {mf:Nat}
def Vh (l0:List UInt8) (fs:List Fr) (n:Nat) (t:ByteArray):Prop :=
 if Bc fs n≠0 then (fs[Bc fs n-1]?).map (·.text)=some t else bsOf (Aw l0 (1024*n) 1024)=t∧1024*n+1024≤l0.length
theorem Vh.of {l0:List UInt8} {fs:List Fr} {n:Nat} {t:ByteArray} (h:CQ1 fs n t):Vh l0 fs n t:=by
 unfold Vh;rw [if_pos h.1];exact h.2
theorem FQ0 {l0:List UInt8} {fs:List Fr} {n:Nat} {t:ByteArray}:Vh l0 (fs++[⟨n,t⟩]) n t:=.of YD0
theorem OR0 {l0:List UInt8} {fs:List Fr} {n m:Nat} {t s:ByteArray} (h:Vh l0 fs m s) (hn:m≠n):Vh l0 (fs++[⟨n,t⟩]) m s:=by
 unfold Vh at h ⊢
 rw [Nv,if_neg (show ¬ ((⟨n,t⟩:Fr).n:Int)=m by show ¬ ((n:Nat):Int)=m;omega)]
 by_cases hl:Bc fs m≠0
 ·rw [if_pos hl] at h ⊢
  rw [List.getElem?_append_left (by have:=Ye fs m;omega)]
  exact h
 ·rw [if_neg hl] at h ⊢;exact h
def Sm (mf:Nat) (l0:List UInt8) (B:Bk) (fs:List Fr) (p:Nat):Prop:=(p=B.q∧fs.length≤mf)∧∀ n,n<B.q→Vh l0 fs n (B.K n)
def JP0 (mf:Nat) (l0 l1:List UInt8) (B:Bk):Prop:=Vm l1 (Sm mf l0 B)
structure WD0 (mf:Nat) (L:Lg) (B:Bk):Prop where
 safe:Safe L
 kept:Sm mf L.D.l0 B (L.fs.take L.kept) L.pages
 few:B.q≤65536
def VS0 (mf:Nat) (D:Dk) (B C:Bk):Prop:=D.down=true∧∀ keep,JP0 mf (D.Fj keep).l0 (D.Fj keep).l1 B∨JP0 mf (D.Fj keep).l0 (D.Fj keep).l1 C
theorem CP0 {L:Lg} {B:Bk} (h:WD0 mf L B) (keep:List Int):JP0 mf (L.D.Fj keep).l0 (L.D.Fj keep).l1 B:=by
 have e:(L.D.Fj keep).l0=L.D.l0:=(Qz h.safe keep).1;unfold JP0;rw [e];exact CA0 h.safe h.kept keep
theorem WD0.lost {L:Lg} {B:Bk} (h:WD0 mf L B) (hd:L.D.down=true) (C:Bk):VS0 mf L.D B C:=⟨hd,fun keep=>.inl (CP0 h keep)⟩
theorem WD0.turned {L:Lg} {B:Bk} (h:WD0 mf L B) (hs:L.D.stops) (C:Bk):VS0 mf L.D.turn B C:=by
 refine ⟨by unfold Dk.turn;rw [if_pos hs],fun keep=>.inl ?_⟩
 obtain ⟨a,b⟩:=Zd L.D keep;rw [a,b];exact CP0 h keep
section
variable {q:Nat} {F:Nat→Prop} {D0 D:Dk}
end
end Go.Proofs.YtjihboddejaelaaGreat
namespace Go.Proofs.YtjihboddejaelaaGreat
open Go.RowKit
variable {mf:Nat}
def NoZ (D:Dk) (l:List UInt8):Prop:=D.l0=l∧∀ c∈D.waits,c.file≠0
theorem NoZ.turn {D:Dk} {l:List UInt8} (h:NoZ D l):NoZ D.turn l:=by
 obtain ⟨a,_,c⟩:=Zm D
 exact ⟨a.trans h.1,by rw [c];exact h.2⟩
theorem NoZ.change {D:Dk} {l:List UInt8} (h:NoZ D l) {c:Ch} (hc:c.file≠0):NoZ (D.change c) l:=by
 obtain ⟨a,_,e⟩:=Iz D c
 refine ⟨a.trans h.1,fun d hd=>?_⟩
 rcases e with e | e
 ·rw [e] at hd;exact h.2 d hd
 ·rw [e] at hd
  rcases List.mem_append.1 hd with hd | hd
  ·exact h.2 d hd
  ·rw [List.mem_singleton.1 hd];exact hc
theorem NoZ.SH0 {D:Dk} {l:List UInt8} (h:NoZ D l):NoZ (D.sync 1) l:=by
 by_cases hs:D.stops
 ·have e:D.sync 1=D.turn:=by
   unfold Dk.sync
   rw [if_pos (by decide),if_pos hs]
  rw [e];exact h.turn
 ·have e:D.sync 1=D.Qg 1:=by
   unfold Dk.sync
   rw [if_pos (by decide),if_neg hs];rfl
  rw [e]
  refine ⟨h.1,fun c hc=>?_⟩
  have hc2:c∈D.waits.filter (fun c=>decide (c.file≠1)):=hc
  exact h.2 c (List.mem_filter.1 hc2).1
theorem NoZ.Fj {D:Dk} {l:List UInt8} (h:NoZ D l) (keep:List Int):(D.Fj keep).l0=l:=(Ro keep D.waits 0 0 D.l0 h.2).trans h.1
theorem ZA0 {L:Lg} {l:List UInt8} (h:NoZ L.D l) (hs:L.slot<2) (f p:Nat):NoZ (L.tell f p).D l:=by
 have e:=Xq hs f p
 have h1:NoZ (L.Bi f p) l:=by
  rw [e];exact h.change (by show (1:Nat)≠0;omega)
 unfold Lg.tell
 split
 ·exact h1
 ·split
  ·exact h1.SH0
  ·exact h1.SH0
section
variable {L:Lg} {B C:Bk}
theorem QV0 (h:WD0 mf L B) (hlen:L.fs.length≤60000) {n:Nat} (hn:n≤65536) {t:ByteArray} (ht:t.size=1024) :
 WD0 mf (L.append n t) B∧(L.append n t).D.l0=L.D.l0∧(L.append n t).pages=L.pages∧(L.append n t).kept=L.kept∧(L.Dq n t=0→(L.append n t).fs=L.fs++[⟨n,t⟩]∧L.D.down=false∧(L.append n t).D.down=false)∧(L.Dq n t≠0→L.Dq n t=2∧(L.append n t).fs=L.fs∧(L.append n t).D.down=true):=by
 obtain ⟨e1,e2⟩:=Zj hlen hn ht;have hs:=MW0 h.safe n t;have hkl:=h.safe.ok.kept;have hl:=(Iz L.D ⟨1,L.at_,bsOf (Fr.bytes ⟨n,t⟩),false⟩).1;rw [e1]
 by_cases hst:L.D.stops
 ·have eE:L.D.Ec=2:=if_pos hst
  rw [e2,if_pos hst] at hs ⊢
  refine ⟨⟨hs, ?_,h.few⟩,hl,rfl,rfl,fun h2=>(by rw [eE] at h2;cases h2),fun _=>⟨eE,rfl, ?_⟩⟩
  ·show Sm mf (L.D.change _).l0 B _ _
   rw [hl];exact h.kept
  ·have e3:L.D.change ⟨1,L.at_,bsOf (Fr.bytes ⟨n,t⟩),false⟩=L.D.turn:=if_pos hst
   show (L.D.change _).down=true
   rw [e3];unfold Dk.turn;rw [if_pos hst]
 ·rw [e2,if_neg hst] at hs ⊢
  refine ⟨⟨hs, ?_,h.few⟩,hl,rfl,rfl,fun _=>⟨rfl,NK0 hst,WA0 hst⟩,fun h2=>absurd ((Iw _).2 hst) h2⟩
  show Sm mf (L.D.change _).l0 B ((L.fs++[_]).take L.kept) L.pages
  rw [hl,List.take_append_of_le_length hkl];exact h.kept
theorem EI1 (h:Safe L) (S:∀ keep,Gz (L.settle (L.D.Fj keep).l1)) (h64:∀ keep,64≤(L.D.Fj keep).l1.length) {f p:Nat} (hf:f≤L.fs.length) (hp:p≤65536) (hK:Sm mf L.D.l0 B (L.fs.take L.kept) L.pages) (hM:Sm mf L.D.l0 C (L.fs.take f) p) :
 (L.Gl f p=0→Gz (L.tell f p)∧(L.tell f p).D.l0=L.D.l0∧(L.tell f p).fs=L.fs∧(L.tell f p).kept=f∧(L.tell f p).pages=p)∧(L.Gl f p≠0→VS0 mf (L.tell f p).D B C):=by
 obtain ⟨o1,o2⟩:=UH0 h S h64 hf (by omega) (T:=Sm mf L.D.l0 B) (U:=Sm mf L.D.l0 C) hK hM
 have hz:=ZA0 (L:=L) ⟨rfl,h.waits0⟩ h.ok.slot f p
 refine ⟨fun h2=>?_,fun h2=>?_⟩
 ·obtain ⟨p1,p3,p4,p5⟩:=o1 h2
  exact ⟨p1,hz.1,p3,p4,p5⟩
 ·obtain ⟨d1,d2⟩:=o2 h2
  refine ⟨d1,fun keep=>?_⟩
  have e:=hz.Fj keep;unfold JP0;rw [e];exact d2 keep
theorem AM1 (h:WD0 mf L B) (hlen:L.fs.length≤60000) {n p:Nat} (hn:n≤65536) (hp:1≤p∧p≤65536) {t:ByteArray} (ht:t.size=1024) (hC:Sm mf L.D.l0 C (L.fs++[⟨n,t⟩]) p) :
 (L.Gp n t p=0→WD0 mf (L.Eu n t p) C∧(L.Eu n t p).D.l0=L.D.l0∧(L.Eu n t p).fs=L.fs++[⟨n,t⟩]∧(L.Eu n t p).kept=L.fs.length+1∧(L.Eu n t p).D.down=false)∧(L.Gp n t p≠0→L.Gp n t p=2∧VS0 mf (L.Eu n t p).D B C):=by
 obtain ⟨hI,hl0,_,_,a1,a2⟩:=QV0 h hlen hn ht
 have cE:L.Gp n t p=if L.Dq n t=0 then (if (L.append n t).D.stops then 2 else ({ L.append n t with D:=(L.append n t).D.sync 1 }:Lg).Gl (L.append n t).fs.length p) else L.Dq n t:=(if_pos (by omega)).trans (by rw [Int.toNat_natCast])
 have cT:L.Eu n t p=if L.Dq n t=0 then (if (L.append n t).D.stops then { L.append n t with D:=(L.append n t).D.sync 1 } else ({ L.append n t with D:=(L.append n t).D.sync 1 }:Lg).tell (L.append n t).fs.length p) else L.append n t:=(if_pos (by omega)).trans (by rw [Int.toNat_natCast])
 rw [cE,cT];clear cE cT;have hq:=hC.1
 by_cases hA:L.Dq n t=0
 ·obtain ⟨hL,_,hAd⟩:=a1 hA
  clear a1 a2;rw [if_pos hA,if_pos hA]
  generalize L.append n t=A at *
  by_cases hst:A.D.stops
  ·rw [if_pos hst,if_pos hst]
   refine ⟨fun h2=>(by cases h2),fun _=>⟨rfl, ?_⟩⟩
   have eY:A.D.sync 1=A.D.turn:=by
    unfold Dk.sync
    rw [if_pos (by decide),if_pos hst]
   show VS0 mf (A.D.sync 1) B _
   rw [eY];exact hI.turned hst C
  ·rw [if_neg hst,if_neg hst]
   have sy:=VI0 hI.safe hst;have s0:=(FN0 hI.safe hst).1
   obtain ⟨X,hX⟩:∃ X:Lg,({ A with D:=A.D.sync 1 }:Lg)=X:=⟨_,rfl⟩
   have b0:X.D.l0=A.D.l0:=by rw [← hX];exact s0
   have b1:X.fs=A.fs:=by rw [← hX]
   have b2:X.kept=A.kept:=by rw [← hX]
   have b3:X.pages=A.pages:=by rw [← hX]
   rw [hX] at sy ⊢;rw [← b1];have hfs:X.fs=L.fs++[⟨n,t⟩]:=b1.trans hL
   have h64:64≤X.D.l1.length:=by
    have hi:0<X.fs.length:=by rw [hfs];simp
    have hg:=List.getElem?_eq_getElem hi
    have:=Gj (Ir sy hg) (Fr.Gx _ (sy.safe.ok.frames _ (List.mem_of_getElem? hg)).2) (by omega)
    omega
   have hM:Sm mf X.D.l0 C (X.fs.take X.fs.length) p:=by
    rw [List.take_of_length_le (Nat.le_refl _),hfs,b0,hl0];exact hC
   have hK:Sm mf X.D.l0 B (X.fs.take X.kept) X.pages:=by rw [b0,b1,b2,b3];exact hI.kept
   obtain ⟨o1,o2⟩:=EI1 sy.safe (fun keep=>by rw [(Tf sy keep).1];exact sy) (fun keep=>by rw [(Tf sy keep).2];exact h64) (f:=X.fs.length) (p:=p) (Nat.le_refl _) hp.2 hK hM
   refine ⟨fun h2=>?_,fun h2=>⟨(WO0 X _ _).resolve_left h2,o2 h2⟩⟩
   obtain ⟨p1,p2,p3,p4,p5⟩:=o1 h2
   exact ⟨⟨p1.safe,by rw [p2,p3,p4,p5];exact hM,by omega⟩,by rw [p2,b0,hl0],by rw [p3];exact hfs,by rw [p4,hfs];simp,YE0 h2⟩
 ·rw [if_neg hA,if_neg hA]
  exact ⟨fun h2=>absurd h2 hA,fun _=>⟨(a2 hA).1,hI.lost (a2 hA).2.2 C⟩⟩
end
end Go.Proofs.YtjihboddejaelaaGreat
namespace Go.Proofs.YtjihboddejaelaaGreat
open Go.RowKit Go.BigFrame
theorem GM.len {R:Value→Option (DataW Unit×List MemPlace)} {w:World} {b c:Nat} {g:Int→Option Nat} {t e:TypeId} (ht : Tryz.prog.underlying t=some (.map 3 e)) (h:GM R w b g c) (ty:TypeId) :
 (Builtin.len_ #[t] ty #[.map (some b)]).run Tryz.prog w = .ok (.int .i64 (c:Int)) w:=by
 obtain ⟨D,h1,h2,h3⟩:=h;have:=h1.len ht ty;rw [h3] at this;exact this
section
variable {w w':World} {b b':List (Option Nat)} {gd g m1 m2 m1' m2' p e h t:Nat} {A A1 A2:List Nat} {a:Nat} {P:Pl}
def EE1 (B:List (Option Nat)) (w:World) (gd g p e h t:Nat) (A:List Nat) (P:Pl) (v:Value) (en:Ending) (w':World):Prop :=
 en = .returned v∧∃ b' m1' m2',PM w' b' gd g m1' m2' p e h t A P∧Turn B (allB b' g m1' m2' p e h t A) w w'
theorem UK0 (H:PM w b gd g m1 m2 p e h t A P) (ok:P.L.ok) (fit:Fit P.L.D 1) (n:Int) (s:ByteArray) :
 Calls Tryz.prog 98 #[Cc g,.int .i64 n,.string s] w (EE1 (allB b g m1 m2 p e h t A) w gd g p e h t A { P with L:=P.L.append n s } (.int .i64 (P.L.Dq n s))):=by
 obtain ⟨e1,e2⟩:=CI1 ok n s
 refine (FG0 b gd g m1 m2 P.L.rw n s w H.log fit (show P.L.fs.length≤_ by have:=ok.len;omega)).mono fun en w' hp=>?_
 rw [← e1,← e2] at hp;obtain ⟨he,b',m1',m2',h1,h2⟩:=hp.maps;obtain ⟨h3,h4⟩:=H.FO1 h1 h2;exact ⟨he,b',m1',m2',h3,h4⟩
def FZ0 (w:World) (b:List (Option Nat)) (gd g m1 m2 p e h t a:Nat) (A A':List Nat) (f:Pf) (P:Pl) (en:Ending) (w':World):Prop :=
 en = .returned (.tuple #[])∧PM w' b gd g m1 m2 p e h t A' P∧(∃ x y,Has w' a 166 (frC f x y))∧Turn (allB b g m1 m2 p e h t A) (allB b g m1 m2 p e h t A') w w'
theorem YN0 {F1 F2:List Pf} {f:Pf} (H:PM w b gd g m1 m2 p e h t (A1++a :: A2) P) (hF:P.ring=F1++f :: F2) (hl:A1.length=F1.length) (hnm:(P.ring.map (·.n)).Nodup) (hn:f.n≤4294967296) :
 Calls Tryz.prog 164 #[Cc p,Cc a] w (fun en w'=>FZ0 w b gd g m1 m2 p e h t a (A1++a :: A2) (A1++A2) f { P with ring:=F1++F2 } en w'∧Turn (some h :: (e :: (A1++a :: A2)).map some) (some h :: (e :: (A1++a :: A2)).map some) w w'):=by
 have hr:=H.ring;have hh:=H.held;rw [hF] at hr hh hnm
 refine (SM0 p a e h (CK0 g e h t P) A1 A2 F1 F2 f _ _ w H.has rfl hr hl hh H.hp hn).mono ?_
 rintro en w' ⟨he,h1,h2,h3,h4,h5⟩;rw [KM0 hnm hl] at h2
 have hm:∀ k,some k∈(some h :: (e :: (A1++a :: A2)).map some)→some k∈pb p e h t (A1++a :: A2):=fun k hk=>by
  rw [Ia]
  rcases List.mem_cons.1 hk with hk | hk
  ·cases hk;exact .inr (.inl rfl)
  ·exact .inr (.inr (.inr (Ld.1 hk)))
 have hsub:∀ k,some k∈pb p e h t (A1++A2)→some k∈pb p e h t (A1++a :: A2):=fun k hk=>by
  rw [Ia] at hk ⊢
  rcases hk with hk | hk | hk | hk
  ·exact .inl hk
  ·exact .inr (.inl hk)
  ·exact .inr (.inr (.inl hk))
  ·refine .inr (.inr (.inr ?_))
   simp only [List.mem_cons,List.mem_append] at hk ⊢
   rcases hk with hk | hk | hk
   ·exact .inl hk
   ·exact .inr (.inl hk)
   ·exact .inr (.inr (.inr hk))
 have htn:¬ some t∈(some h :: (e :: (A1++a :: A2)).map some):=fun hk=>by
  rcases List.mem_cons.1 hk with hk | hk
  ·cases hk;exact H.ht rfl
  ·exact H.ring.off H.turned (Ld.1 hk)
 refine ⟨⟨he,⟨?_,h3,h1, ?_, ?_, ?_,H.ht, ?_⟩,h4, ?_⟩,h5⟩
 ·exact H.log.far h5 (fun k h6 h7=>H.off k h7 (hm k h6))
 ·refine GM.congr (c:=(F1++F2).length) ?_ (fun x=>(TL0 (a:=a) hnm hl x).symm)
  have hc:(if (some a:Option Nat).isSome then (F1++f :: F2).length-1 else (F1++f :: F2).length)=(F1++F2).length:=by
   rw [if_pos (show (some a:Option Nat).isSome=true from rfl),List.length_append,List.length_append,List.length_cons];omega
  rw [hc] at h2;exact h2
 ·exact H.turned.turn h5 htn
 ·intro hx
  refine H.hp ?_
  simp only [List.mem_cons,List.mem_append] at hx ⊢
  rcases hx with hk | hk | hk
  ·exact .inl hk
  ·exact .inr (.inl hk)
  ·exact .inr (.inr (.inr hk))
 ·exact fun k h6 h7=>H.off k h6 (hsub k h7)
 ·refine h5.wide (fun k hk=>List.mem_append_right _ (hm k hk)) (fun k hk=>.inr ?_)
  rcases List.mem_append.1 hk with hk | hk
  ·exact List.mem_append_left _ hk
  ·exact List.mem_append_right _ (hsub k hk)
theorem GS0 {F1 F2:List Pf} {f:Pf} (H:PM w b gd g m1 m2 p e h t (A1++a :: A2) P) (hF:P.ring=F1++f :: F2) (hl:A1.length=F1.length) (hnm:(P.ring.map (·.n)).Nodup) (hn:f.n≤4294967296) :
 Calls Tryz.prog 164 #[Cc p,Cc a] w (FZ0 w b gd g m1 m2 p e h t a (A1++a :: A2) (A1++A2) f { P with ring:=F1++F2 }) :=
 (YN0 H hF hl hnm hn).mono fun en w' h=>h.1
end
theorem DY1:(Tryz.prog.info? 166).map (fun i=>i.size)=some 6:=by kernel_rfl
theorem WM0:∃ j,Tryz.prog.info? 166 = some j∧j.size≠0:=by
 have h:=DY1
 cases hj : Tryz.prog.info? 166 with
 | none=>rw [hj] at h;cases h
 | some j=>rw [hj] at h;exact ⟨j,rfl,by have h2:j.size=6:=(by simpa using h);omega⟩
theorem DW1 {w:World} {a b:Nat} {ta tb:TypeId} {ca cb:Array Value} (ha:Has w a ta ca) (hb:Has w b tb cb) (hne:¬ a=b):(binOp .neq 102 (Cc a) (Cc b)).run Tryz.prog w = .ok (.bool true) w:=by
 obtain ⟨j,hj,hs⟩:=WM0
 have hn:(⟨a,0,none⟩:Addr)≠⟨b,0,none⟩:=fun e=>hne (by cases e;rfl)
 have h:∀ d:Nat,(Op.equalIn (d+1) 102 (Cc a) (Cc b)).run Tryz.prog w = .ok false w:=fun d=>by
  simp [Op.equalIn,run_underlying Tryz.underlying102,sizeOf,typeInfo,hj,hs,run_sameAddr_other w hn ha hb]
 simp only [binOp];simp [Op.equal,Op.maxDepth,h 9999]
theorem PG0 (w:World) (a:Nat):(binOp .neq 102 (Cc a) (Cc a)).run Tryz.prog w = .ok (.bool false) w:=by
 obtain ⟨j,hj,hs⟩:=WM0;exact Lib.run_neq_ptr_same w _ Tryz.underlying102 hj
theorem ZZ0 (A:List Nat) (e:Nat):(A.drop A.length).headD e=e:=by rw [List.drop_length];rfl
theorem QY0 {A:List Nat} {k:Nat} (h:k<A.length):A=A.take k++A[k] :: A.drop (k+1):=by
 rw [← List.drop_eq_getElem_cons h,List.take_append_drop]
theorem VN0 {F:List Pf} {k:Nat} (h:k<F.length):F=F.take k++F[k] :: F.drop (k+1):=by
 rw [← List.drop_eq_getElem_cons h,List.take_append_drop]
def Yg (B:List (Option Nat)) (w:World) (gd g p e h t:Nat) (P:Pl) (E:Int) (en:Ending) (w':World):Prop :=
 en = .returned (.int .i64 E)∧∃ b' m1' m2' A',PM w' b' gd g m1' m2' p e h t A' P∧Turn B (allB b' g m1' m2' p e h t A') w w'
def DU1:Value→Nat
 | .pointer (some a)=>a.block
 | _=>0
theorem BS1 {A1 A2:List Nat} {a e:Nat} (h:(e :: (A1++a :: A2)).Nodup):(A1++a :: A2).length-(A1++a :: A2).idxOf (A2.headD e)<(A1++a :: A2).length-(A1++a :: A2).idxOf a:=by
 rw [List.nodup_cons,List.nodup_append,List.nodup_cons] at h;obtain ⟨he,h1,⟨h2,h3⟩,h4⟩:=h
 have ha:a∉A1:=fun hm=>h4 a hm a (List.mem_cons_self ..) rfl
 have e1:(A1++a :: A2).idxOf a=A1.length:=by
  rw [List.idxOf_append,if_neg ha,List.idxOf_cons_self];omega
 have e2:A1.length<(A1++a :: A2).idxOf (A2.headD e):=by
  rcases A2 with _ | ⟨b,A2⟩
  ·rw [show ([]:List Nat).headD e=e from rfl,List.idxOf_eq_length (by simpa using he)]
   simp
  ·show A1.length<(A1++a :: b :: A2).idxOf b
   have hb:b∉A1:=fun hm=>h4 b hm b (List.mem_cons_of_mem _ (List.mem_cons_self ..)) rfl
   have hab:¬ a=b:=fun x=>h2 (x ▸ List.mem_cons_self ..)
   rw [List.idxOf_append,if_neg hb,List.idxOf_cons,beq_eq_false_iff_ne.2 hab];simp;try omega
 have e3:(A1++a :: A2).length=A1.length+A2.length+1:=by simp;omega
 rw [e1];omega
theorem KK0 (b:List (Option Nat)) (gd g m1 m2 p e h t:Nat) (A:List Nat) (P:Pl) (w:World) (H:PM w b gd g m1 m2 p e h t A P) (ok:P.ok) (fit:Fit P.L.D 1) :
 Calls Tryz.prog 125 #[.pointer (some ⟨p,0,none⟩)] w (Yg (allB b g m1 m2 p e h t A) w gd g p e h t P.room.1 P.room.2):=by
 have HP:=Ac H;have OK:=Ac ok;have x0:w.cell? ⟨p,0,none⟩=some (Cc g):=H.has.cell 0;have x1:w.cell? ⟨p,1,none⟩=some (.int .i64 P.most):=H.has.cell 1;have x2:w.cell? ⟨p,2,none⟩=some (Cc e):=H.has.cell 2;have x3:w.cell? ⟨p,3,none⟩=some (.map (some h)):=H.has.cell 3;obtain ⟨q0,hq0⟩:∃ q,A.headD e=q:=⟨_,rfl⟩
 have e5:w.cell? ⟨e,5,none⟩=some (Cc q0):=by rw [← hq0];exact H.ring.ends.cell 5
 have HQ0:=Ac hq0;clear hq0;have hlen:=(H.held.block (w':=w.drew) rfl).len Tryz.underlying103 3;have AL:=Ac H.ring.len;have FIT:=Ac fit
 by_cases hlt:P.ring.length<P.most
 ·have hR:P.room=(P,0):=if_pos hlt
  rw [hR];clear hR H ok fit
  go_enter Tryz.func125,Tryz.ntmps125
  go_wp2_with fail
  go_region
  go_wp2_with fail
  go_ret
  exact ⟨rfl,b,m1,m2,A,HP.out.below ((Below.refl _ _).drew),Turn.below _ ((Below.refl _ _).drew)⟩
 ·have hR:P.room=match idle P.ring with | none=>(P,6) | some f=>P.Ht f:=if_neg hlt
  have HR:=Ac hR;have HD:=Ac (H.below ((Below.refl w.heap.size w).drew));have hbd:Below w.heap.size w w.drew:=(Below.refl w.heap.size w).drew;have ND:=Ac H.ring.nodup;clear hR H ok fit
  go_enter Tryz.func125,Tryz.ntmps125
  go_wp2_with fail
  go_region
  go_wp2_with fail
  clear hlen x1 hlt
  go_loop [3] (fun v3=>∃ k y:Nat,k≤A.length∧v3=Cc y∧Hid ((A.drop k).headD e=y)∧∀ f∈P.ring.take k,f.pins≠0) (fun v3=>A.length-A.idxOf (DU1 v3))
  case atStart=>exact ⟨0,q0,Nat.zero_le _,rfl,HQ0.out,fun f hf=>by simp at hf⟩
  case round =>
   obtain ⟨k,y,hk,rfl,HY,hpins⟩:=hrel;have HPN:=Ac hpins;clear hpins
   by_cases h1:k<A.length
   ·have hkF:k<P.ring.length:=by have:=AL.out;omega
    obtain ⟨F1,f,F2,hF,hlF⟩:∃ F1 f F2,P.ring=F1++f :: F2∧F1.length=k:=⟨P.ring.take k,P.ring[k],P.ring.drop (k+1),VN0 hkF,by rw [List.length_take];omega⟩
    obtain ⟨A1,a,A2,hA,hlA⟩:∃ A1 a A2,A=A1++a :: A2∧A1.length=k:=⟨A.take k,A[k],A.drop (k+1),QY0 h1,by rw [List.length_take];omega⟩
    subst hA;have hl:A1.length=F1.length:=hlA.trans hlF.symm
    have hd:((A1++a :: A2).drop k).headD e=a:=by rw [← hlA,List.drop_left];rfl
    obtain rfl:a=y:=hd.symm.trans HY.out;have hr:=HP.out.ring;rw [hF] at hr;have hat:=hr.at hl
    have hp1:∀ g∈F1,g.pins≠0:=fun g hg=>HPN.out g (by rw [hF,← hlF,List.take_left];exact hg)
    have hae:¬ a=e:=fun x=>(List.nodup_cons.1 hr.nodup).1 (x ▸ List.mem_append_right _ (List.mem_cons_self ..))
    have a0:w.cell? ⟨a,0,none⟩=some (.int .i64 f.n):=hat.cell 0;have a1:w.cell? ⟨a,1,none⟩=some (.string f.s):=hat.cell 1;have a2:w.cell? ⟨a,2,none⟩=some (.int .i64 f.pins):=hat.cell 2;have a3:w.cell? ⟨a,3,none⟩=some (.bool f.dirty):=hat.cell 3;obtain ⟨nx,hnx⟩:∃ nx,A2.headD e=nx:=⟨_,rfl⟩
    have a5:w.cell? ⟨a,5,none⟩=some (Cc nx):=by rw [← hnx];exact hat.cell 5
    have HNX:=Ac hnx;have hneq:=DW1 (w:=w.drew) hat HP.out.ring.ends hae
    have FN:=Ac (show f.n≤4294967296 by have:=OK.out.pages f (by rw [hF];exact List.mem_append_right _ (List.mem_cons_self ..));have:=OK.out.few;omega)
    have HF:=Ac hF;have HL:=Ac hl;have HLA:=Ac hlA;have HP1:=Ac hp1;clear hF hl hd hr hat hp1 hkF h1 hlF hlA hnx hae HY HQ0
    by_cases hp0:f.pins=0
    ·rw [hp0] at a2
     have a2:w.cell? ⟨a,2,none⟩=some (.int .i64 0):=a2
     have HI:Hid (P.room=P.Ht f):=by
      have:=HR.out;rw [HF.out,CT1 HP1.out hp0] at this;exact this
     have HDR:=Ac (show Oi f.n P.ring=F1++F2 by have:=OK.out.names;rw [HF.out] at this ⊢;exact Sv this)
     clear hp0
     cases hdir:f.dirty
     ·rw [hdir] at a3
      have LV:=Ac (GS0 HD.out HF.out HL.out OK.out.names FN.out)
      have HS:Hid (P.room=({ P with ring:=F1++F2 },0)):=by
       rw [HI.out];unfold Pl.Ht;rw [hdir,HDR.out];rfl
      clear hdir
      go_wp2_with (go_at_call 164;refine LV.out.mono ?_;rintro e2 w1 ⟨rfl,hpm,_,ht⟩)
      go_ret
      rw [HS.out];exact ⟨rfl,b,m1,m2,A1++A2,hpm,(Turn.below _ hbd).trans ht⟩
     ·rw [hdir] at a3
      obtain ⟨E,hE⟩:∃ E,P.L.Dq f.n f.s=E:=⟨_,rfl⟩
      have AP:=Ac (fun u (hb:Below w.heap.size w u)=>UK0 (HP.out.below hb) OK.out.log FIT.out f.n f.s)
      have APT:=Ac (fun u (hb:Below w.heap.size w u)=>Turn.below (allB b g m1 m2 p e h t (A1++a :: A2)) hb)
      rw [hE] at AP
      have HS:Hid (P.room=if E=0 then ({ P with L:=P.L.append f.n f.s,spills:=wrap64 (P.spills+1),ring:=F1++F2 },0) else ({ P with L:=P.L.append f.n f.s },E)):=by
       rw [HI.out];unfold Pl.Ht;rw [hdir,HDR.out,hE];rfl
      clear hdir hE
      go_wp2_with fail
      go_region_with (go_at_call 98;refine (AP.out _ (by repeat (first | exact Below.refl _ _ | refine Below.drew ?_))).mono ?_;rintro e2 w1 ⟨rfl,b1,n1,n2,hpm,ht⟩)
      all_goals
       have HM:=Ac hpm;have HT:=Ac ((APT.out _ ((((Below.refl w.heap.size w).drew)).drew)).trans ht);clear hpm ht x0 x2 x3 e5 a0 a1 a2 a3 a5
       by_cases hE0:E=0
       ·subst hE0
        have HS0:=Ac (HS.out.trans (if_pos rfl));clear HS;have y9:w1.cell? ⟨p,9,none⟩=some (.int .i64 P.spills):=HM.out.has.cell 9;have yf:=HM.out.has.frozen
        have ST:=Ac (HM.out.set (P':={ P with L:=P.L.append f.n f.s,spills:=wrap64 (P.spills+1) }) 9 (.int .i64 (wrap64 (P.spills+1))) rfl rfl rfl rfl)
        have LV:=Ac (GS0 ST.out.1 HF.out HL.out OK.out.names FN.out)
        go_wp2_with (go_at_call 164;refine LV.out.mono ?_;rintro e2 w2 ⟨rfl,hpm,_,ht⟩)
        go_ret
        rw [HS0.out];exact ⟨rfl,b1,n1,n2,A1++A2,hpm,(HT.out.trans ST.out.2).trans ht⟩
       ·have HS0:=Ac (HS.out.trans (if_neg hE0))
        clear HS
        go_wp2_with fail
        go_ret
        rw [HS0.out];exact ⟨rfl,b1,n1,n2,A1++a :: A2,HM.out,HT.out⟩
    ·have g0:(0:Int)<(f.pins:Int):=by omega
     go_wp2_with fail
     go_round
     case rel =>
      refine ⟨k+1,nx, ?_,rfl, ?_,fun x hx=>?_⟩
      ·rw [List.length_append,List.length_cons,← HLA.out];omega
      ·show ((A1++a :: A2).drop (k+1)).headD e=nx
       rw [← HLA.out,show (A1++a :: A2).drop (A1.length+1)=A2 by rw [List.drop_append];simp]
       exact HNX.out
      ·rw [HF.out,show k+1=(F1++[f]).length by rw [List.length_append,List.length_singleton];have:=HL.out;have:=HLA.out;omega,show F1++f :: F2=(F1++[f])++F2 by simp,List.take_left] at hx
       rcases List.mem_append.1 hx with hx | hx
       ·exact HP1.out x hx
       ·rw [List.mem_singleton.1 hx];exact hp0
     case measure =>
      show (A1++a :: A2).length-(A1++a :: A2).idxOf nx<(A1++a :: A2).length-(A1++a :: A2).idxOf a
      rw [← HNX.out];exact BS1 ND.out
   ·have hk2:k=A.length:=by omega
    subst hk2;obtain rfl:e=y:=(ZZ0 A e).symm.trans HY.out;have hneq:=PG0 w.drew e
    have HS:Hid (P.room=(P,6)):=by
     have:=HR.out
     rw [UU0 (fun f hf=>HPN.out f (by rw [List.take_of_length_le (by have:=AL.out;omega)];exact hf))] at this
     exact this
    go_wp2_with fail
    go_ret
    rw [HS.out];exact ⟨rfl,b,m1,m2,A,HD.out,Turn.below _ hbd⟩
end Go.Proofs.YtjihboddejaelaaGreat
