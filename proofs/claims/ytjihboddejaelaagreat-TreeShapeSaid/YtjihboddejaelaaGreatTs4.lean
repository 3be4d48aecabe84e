/-
  The ring of a pool's frames in memory: taken out, put at its end.
-/
import Derived.Test.YtjihboddejaelaaGreatTs1
import Derived.Test.YtjihboddejaelaaGreatProg
import Derived.Test.YtjihboddejaelaaGreatRows
import Derived.WalkSpells
import Derived.WalkLawsBesides
import Derived.BigQuiet
import Derived.Outline
import Derived.LoopTactic
import Derived.Deep.DeepCutAuto
import Derived.Deep.AppendLies
import Derived.Laws.BitsAllLaws
import Derived.Orders
import Derived.Tactics
import Derived.Lib.BufferWrite
import Derived.Lib.SlBuf
import Derived.IntWalk
import Derived.Laws.MakeOwn
import Derived.Lib.Strings
import Derived.Test.YtjihboddejaelaaGreatTs3
import Derived.Test.YtjihboddejaelaaGreatTs2
import Derived.Maps.StringElems
set_option linter.unusedVariables false
set_option linter.unusedSimpArgs false
set_option maxRecDepth 100000
set_option maxHeartbeats 100000000
namespace Go.Proofs.YtjihboddejaelaaGreat
open Go.RowKit
structure Pf where
 n:Nat
 s:ByteArray
 pins:Nat
 dirty:Bool
def pf0:Pf:=⟨0,⟨#[]⟩,0,false⟩
abbrev Cc (b:Nat):Value:=.pointer (some ⟨b,0,none⟩)
def frC (f:Pf) (p q:Nat):Array Value:=#[.int .i64 f.n,.string f.s,.int .i64 f.pins,.bool f.dirty,Cc p,Cc q]
def seg (w:World):Nat→List Nat→List Pf→Nat→Prop
 | _,[],F,_=>F=[]
 | p,a :: A,F,q=>∃ f r,F=f :: r∧Has w a 166 (frC f p (A.headD q))∧seg w a A r q
section
variable {w w':World}
theorem Zh:∀ {p:Nat} {A:List Nat} {F:List Pf} {q:Nat},seg w p A F q→A.length=F.length
 | _,[],_,_,h=>by rw [show _=[] from h];rfl
 | p,a :: A,_,q,h=>by
   obtain ⟨f,r,rfl,_,h2⟩:=h;simp [Zh h2]
theorem seg_lt:∀ {p:Nat} {A:List Nat} {F:List Pf} {q:Nat},seg w p A F q→∀ x∈A,x<w.heap.size
 | _,[],_,_,_,_,hx=>by cases hx
 | p,a :: A,_,q,h,x,hx=>by
   obtain ⟨f,r,rfl,h1,h2⟩:=h
   rcases List.mem_cons.1 hx with rfl | hx
   ·exact h1.lt
   ·exact seg_lt h2 x hx
theorem Xw:∀ {p:Nat} {A:List Nat} {F:List Pf} {q:Nat},(∀ x∈A,w'.heap[x]? = w.heap[x]?)→seg w p A F q→seg w' p A F q
 | _,[],_,_,_,h=>h
 | p,a :: A,_,q,hb,h=>by
   obtain ⟨f,r,rfl,h1,h2⟩:=h
   exact ⟨f,r,rfl,(hb a (List.mem_cons_self ..)).trans h1,Xw (fun x hx=>hb x (List.mem_cons_of_mem _ hx)) h2⟩
theorem Tj {p:Nat} {A:List Nat} {F:List Pf} {q:Nat} (h:seg w p A F q) {y:Addr} (hy:y.block∉A) (u:Value):seg (w.setCell y u) p A F q :=
 Xw (fun x hx=>Below.heap_setCell _ _ _ _ (fun e=>hy (e ▸ hx))) h
theorem seg_next:∀ {p:Nat} {A:List Nat} {F:List Pf} {q z:Nat} (q':Nat),seg w p (A++[z]) F q→z∉A→seg (w.setCell ⟨z,5,none⟩ (Cc q')) p (A++[z]) F q'
 | p,[],_,q,z,q',h,_=>by
   obtain ⟨f,r,rfl,h1,h2⟩:=h;exact ⟨f,r,rfl,h1.set 5 (Cc q'),h2⟩
 | p,a :: A,_,q,z,q',h,hz=>by
   obtain ⟨f,r,rfl,h1,h2⟩:=h
   have hza:¬ a=z:=fun e=>hz (e ▸ List.mem_cons_self ..)
   refine ⟨f,r,rfl, ?_,seg_next q' h2 (fun hm=>hz (List.mem_cons_of_mem _ hm))⟩
   have e:(A++[z]).headD q'=(A++[z]).headD q:=by cases A <;> rfl
   show Has _ a _ (frC f p ((A++[z]).headD q'))
   rw [e];exact h1.far hza _
theorem PS0 {p:Nat} {b:Nat} {A:List Nat} {F:List Pf} {q:Nat} (p':Nat) (h:seg w p (b :: A) F q) (hb:b∉A):seg (w.setCell ⟨b,4,none⟩ (Cc p')) p' (b :: A) F q:=by
 obtain ⟨f,r,rfl,h1,h2⟩:=h;exact ⟨f,r,rfl,h1.set 4 (Cc p'),Tj h2 hb _⟩
theorem Ny:∀ {p:Nat} {A B:List Nat} {F:List Pf} {q:Nat},seg w p (A++B) F q→∃ F1 F2,F=F1++F2∧seg w p A F1 (B.headD q)∧seg w (A.getLastD p) B F2 q
 | p,[],B,F,q,h=>⟨[],F,rfl,rfl,h⟩
 | p,a :: A,B,_,q,h=>by
   rw [List.cons_append] at h;obtain ⟨f,r,rfl,h1,h2⟩:=h;obtain ⟨F1,F2,rfl,h3,h4⟩:=Ny h2
   have e:(A++B).headD q=A.headD (B.headD q):=by cases A <;> rfl
   rw [e] at h1
   refine ⟨f :: F1,F2,rfl,⟨f,F1,rfl,h1,h3⟩, ?_⟩
   have e2:(a :: A).getLastD p=A.getLastD a:=by cases A <;> rfl
   rw [e2];exact h4
theorem BC0:∀ {p:Nat} {A B:List Nat} {F1 F2:List Pf} {q:Nat},seg w p A F1 (B.headD q)→seg w (A.getLastD p) B F2 q→seg w p (A++B) (F1++F2) q
 | p,[],B,F1,F2,q,h1,h2=>by rw [show F1=[] from h1];exact h2
 | p,a :: A,B,_,F2,q,h1,h2=>by
   obtain ⟨f,r,rfl,h3,h4⟩:=h1
   have e:(A++B).headD q=A.headD (B.headD q):=by cases A <;> rfl
   have e2:(a :: A).getLastD p=A.getLastD a:=by cases A <;> rfl
   rw [e2] at h2;rw [List.cons_append]
   exact ⟨f,r++F2,rfl,by rw [e];exact h3,BC0 h4 h2⟩
theorem DT1 {p:Nat} {A1 A2:List Nat} {a:Nat} {F1 F2:List Pf} {f f':Pf} {q:Nat} (h:seg w p (A1++a :: A2) (F1++f :: F2) q) (hl:A1.length=F1.length) (h1:a∉A1) (h2:a∉A2)
 (hb:∀ x,x≠a→w'.heap[x]? = w.heap[x]?) (hn:∀ x y,Has w a 166 (frC f x y)→Has w' a 166 (frC f' x y)):seg w' p (A1++a :: A2) (F1++f' :: F2) q:=by
 obtain ⟨G1,G2,e,h3,h4⟩:=Ny h;have hl2:=Zh h3
 obtain ⟨e1,e2⟩:=List.append_inj e (by omega)
 subst e1;subst e2;obtain ⟨f2,r,e3,h5,h6⟩:=h4
 injection e3 with e4 e5
 subst e4;subst e5
 exact BC0 (Xw (fun x hx=>hb x (fun e=>h1 (e ▸ hx))) h3) ⟨f',F2,rfl,hn _ _ h5,Xw (fun x hx=>hb x (fun e=>h2 (e ▸ hx))) h6⟩
end
structure Ring (w:World) (e:Nat) (A:List Nat) (F:List Pf):Prop where
 nodup:(e :: A).Nodup
 ends:Has w e 166 (frC pf0 (A.getLastD e) (A.headD e))
 row:seg w e A F e
section
variable {w w':World} {e:Nat} {A A1 A2:List Nat} {a:Nat} {F F1 F2:List Pf} {f:Pf}
theorem Ring.len (h:Ring w e A F):A.length=F.length:=Zh h.row
theorem Ring.lt (h:Ring w e A F):∀ x∈e :: A,x<w.heap.size:=fun x hx=>by
 rcases List.mem_cons.1 hx with rfl | hx
 ·exact h.ends.lt
 ·exact seg_lt h.row x hx
theorem Ring.kept (h:Ring w e A F) (hb:∀ x∈e :: A,w'.heap[x]? = w.heap[x]?):Ring w' e A F :=
 ⟨h.nodup,(hb e (List.mem_cons_self ..)).trans h.ends,Xw (fun x hx=>hb x (List.mem_cons_of_mem _ hx)) h.row⟩
theorem Ring.at (h:Ring w e (A1++a :: A2) (F1++f :: F2)) (hl:A1.length=F1.length):Has w a 166 (frC f (A1.getLastD e) (A2.headD e)):=by
 obtain ⟨G1,G2,eq,h3,h4⟩:=Ny h.row;have hl2:=Zh h3
 obtain ⟨e1,e2⟩:=List.append_inj eq (by omega)
 subst e1;subst e2;obtain ⟨f2,r,e3,h5,h6⟩:=h4
 injection e3 with e4 e5
 subst e4;subst e5;exact h5
theorem Ea (A:List Nat) (z p:Nat):(A++[z]).getLastD p=z:=by
 induction A generalizing p with
 | nil=>rfl
 | cons a A ih=>rw [List.cons_append];show List.getLastD (a :: (A++[z])) p=z;rw [List.getLastD_cons];exact ih a
theorem Uf (A B:List Nat) (p:Nat):(A++B).getLastD p=B.getLastD (A.getLastD p):=by
 induction A generalizing p with
 | nil=>rfl
 | cons a A ih=>rw [List.cons_append,List.getLastD_cons,List.getLastD_cons];exact ih a
theorem Jn (A B:List Nat) (q:Nat):(A++B).headD q=A.headD (B.headD q):=by cases A <;> rfl
theorem EL0 (A:List Nat):A=[]∨∃ B z,A=B++[z]:=by
 rcases List.eq_nil_or_concat A with h | ⟨B,z,h⟩
 ·exact .inl h
 ·exact .inr ⟨B,z,by rw [h,List.concat_eq_append]⟩
theorem Ring.leave (h:Ring w e (A1++a :: A2) (F1++f :: F2)) (hl:A1.length=F1.length) :
 Ring ((w.setCell ⟨A1.getLastD e,5,none⟩ (Cc (A2.headD e))).setCell ⟨A2.headD e,4,none⟩ (Cc (A1.getLastD e))) e (A1++A2) (F1++F2):=by
 obtain ⟨G1,G2,eq,h3,h4⟩:=Ny h.row;have hl2:=Zh h3
 obtain ⟨e1,e2⟩:=List.append_inj eq (by omega)
 subst e1;subst e2;obtain ⟨f2,r,e3,h5,h6⟩:=h4
 injection e3 with e4 e5
 subst e4;subst e5;have hnd:=h.nodup;rw [List.nodup_cons,List.nodup_append] at hnd;obtain ⟨he,n1,n2,n3⟩:=hnd;rw [List.nodup_cons] at n2
 have heA1:e∉A1:=fun hm=>he (List.mem_append_left _ hm)
 have heA2:e∉A2:=fun hm=>he (List.mem_append_right _ (List.mem_cons_of_mem _ hm))
 have hends:=h.ends;rw [Uf,List.getLastD_cons,Jn] at hends
 have hnd2:(e :: (A1++A2)).Nodup:=by
  rw [List.nodup_cons,List.nodup_append]
  exact ⟨fun hm=>(List.mem_append.1 hm).elim heA1 heA2,n1,n2.2,fun x hx y hy=>n3 x hx y (List.mem_cons_of_mem _ hy)⟩
 rcases EL0 A1 with rfl | ⟨B1,z,rfl⟩
 ·rw [show F1=[] from h3] at *
  rcases A2 with _ | ⟨b,A2⟩
  ·rw [show F2=[] from h6] at *
   exact ⟨hnd2,(hends.set 5 (Cc e)).set 4 (Cc e),rfl⟩
  ·have hb:¬ e=b:=fun x=>heA2 (x ▸ List.mem_cons_self ..)
   refine ⟨hnd2, ?_, ?_⟩
   ·have:=(hends.set 5 (Cc b)).far (p:=⟨b,4,none⟩) hb (Cc e)
    rw [List.nil_append,List.getLastD_cons];rw [List.getLastD_cons] at this;exact this
   ·exact PS0 e (Tj h6 (y:=⟨e,5,none⟩) heA2 (Cc b)) (List.nodup_cons.1 n2.2).1
 ·rw [Ea] at *
  have hz:¬ e=z:=fun x=>heA1 (x ▸ List.mem_append_right _ (List.mem_singleton.2 rfl))
  have hzB:z∉B1:=fun hm=>by
   rw [List.nodup_append] at n1;exact n1.2.2 z hm z (List.mem_singleton.2 rfl) rfl
  have hzA2:z∉A2:=fun hm=>n3 z (List.mem_append_right _ (List.mem_singleton.2 rfl)) z (List.mem_cons_of_mem _ hm) rfl
  rcases A2 with _ | ⟨b,A2⟩
  ·rw [show F2=[] from h6] at *
   refine ⟨hnd2, ?_, ?_⟩
   ·have:=(hends.far (p:=⟨z,5,none⟩) hz (Cc e)).set 4 (Cc z)
    rw [List.append_nil,Ea];rw [Jn] at this ⊢;exact this
   ·rw [List.append_nil,List.append_nil]
    exact Tj (seg_next e h3 hzB) (y:=⟨e,4,none⟩) heA1 _
  ·have hb:¬ e=b:=fun x=>heA2 (x ▸ List.mem_cons_self ..)
   have hbB:b∉B1++[z]:=fun hm=>n3 b hm b (List.mem_cons_of_mem _ (List.mem_cons_self ..)) rfl
   refine ⟨hnd2, ?_, ?_⟩
   ·have:=(hends.far (p:=⟨z,5,none⟩) hz (Cc b)).far (p:=⟨b,4,none⟩) hb (Cc z)
    rw [Uf,Ea,List.getLastD_cons,Jn];rw [List.getLastD_cons,Jn] at this
    have e6:(B1.headD ([z].headD a))=B1.headD ([z].headD ((b :: A2).headD e)):=by cases B1 <;> rfl
    rw [Jn,← e6];exact this
   ·refine BC0 ?_ ?_
    ·exact Tj (seg_next b h3 hzB) (y:=⟨b,4,none⟩) hbB _
    ·rw [Ea]
     exact PS0 z (Tj h6 (y:=⟨z,5,none⟩) hzA2 (Cc b)) (List.nodup_cons.1 n2.2).1
theorem Ring.FG1 (h:Ring w e A F) {va vb:Value} (ha:Has w a 166 #[.int .i64 f.n,.string f.s,.int .i64 f.pins,.bool f.dirty,va,vb]) (hea:a∉e :: A) :
 Ring ((((w.setCell ⟨a,4,none⟩ (Cc (A.getLastD e))).setCell ⟨a,5,none⟩ (Cc e)).setCell ⟨A.getLastD e,5,none⟩ (Cc a)).setCell ⟨e,4,none⟩ (Cc a)) e (A++[a]) (F++[f]):=by
 have hae:¬ e=a:=fun x=>hea (x ▸ List.mem_cons_self ..)
 have haA:a∉A:=fun hm=>hea (List.mem_cons_of_mem _ hm)
 obtain ⟨heA,hnA⟩:=List.nodup_cons.1 h.nodup
 have hnd:(e :: (A++[a])).Nodup:=by
  rw [List.nodup_cons,List.nodup_append]
  refine ⟨fun hm=>(List.mem_append.1 hm).elim heA (fun h2=>hae (List.mem_singleton.1 h2)),hnA,by simp,fun u hu v hv=>?_⟩
  rw [List.mem_singleton.1 hv]
  exact fun x=>haA (x ▸ hu)
 have h1:=(ha.set 4 (Cc (A.getLastD e))).set 5 (Cc e);have h2:=(h.ends.far (p:=⟨a,4,none⟩) hae (Cc (A.getLastD e))).far (p:=⟨a,5,none⟩) hae (Cc e);have h3:=Tj (Tj h.row (y:=⟨a,4,none⟩) haA (Cc (A.getLastD e))) (y:=⟨a,5,none⟩) haA (Cc e)
 rcases EL0 A with rfl | ⟨B,z,rfl⟩
 ·rw [show F=[] from h.row]
  exact ⟨hnd,(h2.set 5 (Cc a)).set 4 (Cc a),⟨f,[],rfl,(h1.far (p:=⟨e,5,none⟩) (Ne.symm hae) (Cc a)).far (p:=⟨e,4,none⟩) (Ne.symm hae) (Cc a),rfl⟩⟩
 ·rw [Ea] at *
  have hza:¬ a=z:=fun x=>haA (x ▸ List.mem_append_right _ (List.mem_singleton.2 rfl))
  have hze:¬ e=z:=fun x=>heA (x ▸ List.mem_append_right _ (List.mem_singleton.2 rfl))
  have hzB:z∉B:=fun hm=>by
   rw [List.nodup_append] at hnA;exact hnA.2.2 z hm z (List.mem_singleton.2 rfl) rfl
  refine ⟨hnd, ?_, ?_⟩
  ·have:=(h2.far (p:=⟨z,5,none⟩) hze (Cc a)).set 4 (Cc a)
   rw [Ea,Jn,Jn];rw [Jn] at this;exact this
  ·refine BC0 (Tj (seg_next a h3 hzB) (y:=⟨e,4,none⟩) heA _) ?_
   rw [Ea];exact ⟨f,[],rfl,(h1.far (p:=⟨z,5,none⟩) hza (Cc a)).far (p:=⟨e,4,none⟩) (Ne.symm hae) (Cc a),rfl⟩
end
end Go.Proofs.YtjihboddejaelaaGreat
namespace Go.Proofs.YtjihboddejaelaaGreat
def Xn (c:Nat):Nat:=if c % 2=1 then (c / 2) ^^^ 3988292384 else c / 2
def Vw:Nat→Nat→Nat
 | 0,c=>c
 | k+1,c=>Vw k (Xn c)
theorem Uh:∀ (k c:Nat),Vw (k+1) c=Xn (Vw k c)
 | 0,_=>rfl
 | k+1,c=>by rw [Vw,Uh k (Xn c)];rfl
def XW0 (c b:Nat):Nat:=Vw 8 (c ^^^ b)
def IY0 (c:Nat) (l:List UInt8):Nat:=l.foldl (fun c b=>XW0 c b.toNat) c
def JJ0 (l:List UInt8):Nat:=4294967295-IY0 4294967295 l
theorem KR0 {c:Nat} (h:c<4294967296):Xn c<4294967296:=by
 unfold Xn
 split
 ·exact Nat.xor_lt_two_pow (n:=32) (by omega) (by omega)
 ·omega
theorem TF0 (c:Nat) (l:List UInt8) (b:UInt8):IY0 c (l++[b])=XW0 (IY0 c l) b.toNat:=by simp [IY0]
theorem NB0 (l:List UInt8):JJ0 l<4294967296:=by unfold JJ0;omega
theorem ZT0 {c b:Nat} (h:c<4294967296) (hb:b<256):c ^^^ b<4294967296:=Nat.xor_lt_two_pow (n:=32) (by omega) (by omega)
open Go.RowKit Go.BigFrame
theorem and_one {c:Nat} (h:c<4294967296):bits .and .u32 (c:Int) 1=((c % 2:Nat):Int):=by
 have:=u32_and_nat c 1 h (by omega)
 rw [nat_mask1] at this;exact this
theorem ZO0 {c:Nat} (h:c<4294967296):bits .xor .u32 (c:Int) 3988292384=((c ^^^ 3988292384:Nat):Int):=u32_xor_nat c 3988292384 h (by omega)
theorem ZI0 {c b:Nat} (h:c<4294967296) (hb:b<256):bits .xor .u32 (c:Int) ((b:Int) % 4294967296)=((c ^^^ b:Nat):Int):=by
 rw [show (b:Int) % 4294967296=(b:Int) by omega];exact u32_xor_nat c b h (by omega)
theorem DR1 {e:Nat} (he:e<4294967296) (ho:e % 2=1):bits .xor .u32 ((e:Int) / 2) 3988292384=((Xn e:Nat):Int):=by
 rw [show ((e:Int) / 2)=((e / 2:Nat):Int) by omega,ZO0 (by omega),Xn,if_pos ho]
theorem AZ1 {e:Nat} (ho:¬ e % 2=1):((e:Int) / 2)=((Xn e:Nat):Int):=by
 rw [Xn,if_neg ho];omega
theorem ZK0 {s:ByteArray} {i c d k e:Nat} (h1:i<s.size) (hx:c=IY0 4294967295 (s.data.toList.take i)) (hd:c ^^^ s[i].toNat=d) (he:e=Vw k d) (hk:k=8):e=IY0 4294967295 (s.data.toList.take (i+1)):=by
 subst hk
 rw [List.take_succ_eq_append_getElem (by simpa using h1),TF0,← hx,he,← hd];rfl
theorem AC1 {c:Nat} (h:c<4294967296):4294967295 ^^^ c=4294967295-c:=by
 have h1:(BitVec.ofNat 32 c ^^^ BitVec.allOnes 32).toNat=(~~~ BitVec.ofNat 32 c).toNat:=by rw [BitVec.xor_allOnes]
 rw [BitVec.toNat_xor,BitVec.toNat_not,BitVec.toNat_allOnes,BitVec.toNat_ofNat,Nat.mod_eq_of_lt (show c<2 ^ 32 by omega),Nat.xor_comm] at h1
 exact h1
theorem DN1 {c:Nat} (h:c<4294967296):bits .xor .u32 IntKind.u32.max (c:Int)=((4294967295-c:Nat):Int):=by
 have:=u32_xor_nat 4294967295 c (by omega) h
 rw [AC1 h] at this;exact this
theorem PU0 (s:ByteArray) (w:World) (hs:s.size≤9223372036854775807) :
 Calls Tryz.prog 194 #[.string s] w fun e w'=>e = .returned (.int .u32 (JJ0 s.data.toList:Nat))∧w=w':=by
 go_enter Tryz.func194,Tryz.ntmps194
 go_wp2_with fail
 go_loop [3,4] (fun v3 v4=>∃ i c:Nat,i≤s.size∧c<4294967296∧v3 = .int .u32 c∧v4 = .int .i64 i∧c=IY0 4294967295 (s.data.toList.take i)) (fun _ v4=>s.size-(intOf v4).toNat)
 case atStart=>exact ⟨0,4294967295,Nat.zero_le _,by omega,rfl,rfl,rfl⟩
 case round =>
  obtain ⟨i,c,hi,hc,rfl,rfl,hx⟩:=hrel;have HX:=Ac hx;clear hx
  by_cases h1:i<s.size
  ·have x1:=ZI0 hc (Ci s[i])
   have hx2:c ^^^ s[i].toNat<4294967296:=ZT0 hc (Ci s[i]);obtain ⟨d,hd⟩:∃ d,c ^^^ s[i].toNat=d:=⟨_,rfl⟩;rw [hd] at x1 hx2;have HD:=Ac hd;clear hd;obtain ⟨wo,rfl⟩:∃ wo:World,wo=w:=⟨_,rfl⟩
   go_wp2_with fail
   go_loop [3,17] (fun v3 v17=>∃ k e:Nat,k≤8∧e<4294967296∧v3 = .int .u32 e∧v17 = .int .i64 k∧e=Vw k d) (fun _ v17=>8-(intOf v17).toNat)
   case atStart=>exact ⟨0,d,by omega,hx2,rfl,rfl,rfl⟩
   case round =>
    obtain ⟨k,e,hk,he,rfl,rfl,hy⟩:=hrel;have HY:=Ac hy;clear hy
    by_cases hk8:k<8
    ·by_cases ho:e % 2=1
     ·have a1:bits .and .u32 (e:Int) 1=1:=by rw [and_one he,ho];rfl
      have HO:=Ac ho;clear ho;have a2:=DR1 he HO.out
      go_wp2_with fail
      go_round
      case rel=>exact ⟨k+1,_,by omega,KR0 he,rfl,by simp,by rw [HY.out,Uh]⟩
      case measure=>simp [intOf];omega
     ·have a1:bits .and .u32 (e:Int) 1=0:=by rw [and_one he,show e % 2=0 by omega];rfl
      have HO:=Ac ho;clear ho
      go_wp2_with fail
      go_round
      case rel=>exact ⟨k+1,_,by omega,KR0 he,by rw [AZ1 HO.out],by simp,by rw [HY.out,Uh]⟩
      case measure=>simp [intOf];omega
    ·have ST:=Ac (ZK0 h1 HX.out HD.out HY.out (by omega))
     go_wp2_with fail
     go_round
     case rel=>exact ⟨i+1,e,by omega,he,rfl,by simp,ST.out⟩
     case measure=>simp [intOf];omega
  ·obtain rfl:i=s.size:=by omega
   have T:IY0 4294967295 (s.data.toList.take s.size)=IY0 4294967295 s.data.toList:=by rw [List.take_of_length_le (by simp)]
   have E:=Ac (show bits .xor .u32 IntKind.u32.max (c:Int)=((JJ0 s.data.toList:Nat):Int) by rw [DN1 hc,HX.out,T];rfl)
   clear T
   go_wp2_with fail
   go_ret
   exact ⟨Zk E.out,rfl⟩
theorem GL0 (n:Nat) (hn:n≤9223372036854775807) (w:World):Calls Tryz.prog 192 #[.int .i64 n] w fun e w'=>∃ g,e = .returned (.slice (some ⟨g,0,none⟩) 2 2)∧Has w' g 5 (u8s (beK n 2)).toArray∧Below w.heap.size w w'∧w.heap.size≤g:=by
 have E:=Ac (show u8s (beK n 2)=[.int .u8 ((n:Int) / 256 % 256),.int .u8 ((n:Int) % 256)] by
  rw [Zv];simp only [u8s,u8v,List.map_cons,List.map_nil,Lc];rw [show ((n / 256:Nat):Int)=(n:Int) / 256 by omega])
 go_enter Tryz.func192,Tryz.ntmps192
 go_wp2
 go_ret
 refine ⟨_,rfl, ?_,(Below.refl _ _).alloc (Nat.le_refl _) _,Nat.le_refl _⟩
 rw [E.out];exact Has.new w _ _
theorem WT0 (n:Nat) (hn:n≤4294967295) (w:World):Calls Tryz.prog 193 #[.int .i64 n] w (UG0 w (beK n 4)):=by
 obtain ⟨i0,hi,hz0,hz1,hz2⟩:=info_parts infoByte
 have t1:=fun w1=>GL0 (n / 65536) (by omega) w1
 rw [show ((n / 65536:Nat):Int)=(n:Int) / 65536 by omega] at t1
 have T1:=Ac t1;clear t1
 have T2:=Ac (fun w1=>GL0 n (by omega) w1)
 have F4:=Ac (RI0 n)
 have g1:2+2≤maxLen:=by unfold maxLen;omega
 go_enter Tryz.func193,Tryz.ntmps193
 go_wp2_with (first | (go_at_call 192;(with_reducible refine (T1.out _).mono ?_);rintro e1 w1 ⟨ga,rfl,ha,hb1,hl1⟩;have HA:=Ac ha;clear ha) | (go_at_call 192;(with_reducible refine (T2.out _).mono ?_);rintro e2 w2 ⟨gb,rfl,hb,hb2,hl2⟩;have HA2:=Ac (HA.out.Aj hb2);have HBB:=Ac hb;clear hb) | (at_builtin;go_loud (refine Xd rfl (.tmp 5) (.tmp 7) 39 39 rfl w.heap.size 5 i0 _ 1 1 Tryz.underlying39 hi hz0 hz1 hz2 rfl ga 2 (u8s (beK (n / 65536) 2)) rfl (HA2.out.own hl1 rfl (by unfold maxLen;omega)) (.slice (some ⟨gb,0,none⟩) 2 2) 2 (u8s (beK n 2)) rfl ((BS.GA0 HBB.out).src Tryz.underlying39) g1 (by omega) (Nat.le_trans hb1.size hb2.size) ?_);intro A4 c4 w3 hown hb3;have HO:=Ac hown;clear hown))
 go_ret
 obtain ⟨A5,c5,e5,_,h5⟩:=BS.Dv (l:=beK n 4) (n:=4) (by rw [F4.out,Ur];exact HO.out)
 cases e5
 refine ⟨A4,c4,by show _=Ending.returned (.slice A4 (beK n 4).length c4);rw [Az];rfl,by rw [Az];exact h5,Am (Am hb1 hb2 hb1.size) hb3 (Nat.le_trans hb1.size hb2.size)⟩
end Go.Proofs.YtjihboddejaelaaGreat
namespace Go.Proofs.YtjihboddejaelaaGreat
open Go.RowKit
def Be (cs:List ByteArray):Nat:=(cs.map fun c=>4+c.size).sum
theorem GB0 (cs:List ByteArray) (c:ByteArray):Be (cs++[c])=Be cs+(4+c.size):=by simp [Be]
theorem JY0 (a b:List ByteArray):Be (a++b)=Be a+Be b:=by simp [Be]
theorem Xz (cs:List ByteArray) (i:Nat):Be (cs.take i)≤Be cs:=by
 have h:=JY0 (cs.take i) (cs.drop i);rw [List.take_append_drop] at h;omega
theorem TM0 (cs:List ByteArray) {i:Nat} (h:i<cs.length):Be (cs.take (i+1))=Be (cs.take i)+(4+cs[i].size):=by
 rw [List.take_succ_eq_append_getElem h,GB0]
def Il (cs:List ByteArray):Nat:=(cs.map fun c=>2+c.size).sum
theorem TZ0 (cs:List ByteArray) (c:ByteArray):Il (cs++[c])=Il cs+(2+c.size):=by simp [Il]
theorem Us (cs:List ByteArray) {i:Nat} (h:i<cs.length):Il (cs.take (i+1))=Il (cs.take i)+(2+cs[i].size):=by
 rw [List.take_succ_eq_append_getElem h,TZ0]
theorem MF0 (cs:List ByteArray):Be cs=Il cs+2*cs.length:=by
 induction cs with
 | nil=>rfl
 | cons c cs ih=>simp only [Be,Il,List.map_cons,List.sum_cons,List.length_cons] at *;omega
def Jd:List ByteArray→List UInt8
 | []=>[]
 | c :: cs=>Jd cs++(beK c.size 2++c.data.toList)
theorem FF0 (cs:List ByteArray) (c:ByteArray):Jd (cs++[c])=beK c.size 2++c.data.toList++Jd cs:=by
 induction cs with
 | nil=>simp [Jd]
 | cons d cs ih=>rw [List.cons_append,Jd,ih,Jd];simp
theorem DX0 (cs:List ByteArray):(Jd cs).length=Il cs:=by
 induction cs with
 | nil=>rfl
 | cons c cs ih=>simp only [Jd,List.length_append,ih,Az,Il,List.map_cons,List.sum_cons,Array.length_toList];rw [show c.data.size=c.size from rfl];omega
def Wi (cs:List ByteArray):Nat→List UInt8
 | 0=>[]
 | i+1=>Wi cs i++beK (1024-Il (cs.take (i+1))) 2
theorem Yj (cs:List ByteArray):∀ i,(Wi cs i).length=2*i
 | 0=>rfl
 | i+1=>by rw [Wi,List.length_append,Yj cs i,Az];omega
def TO0 (k l n:Nat):List UInt8:=[UInt8.ofNat k,0]++beK n 2++beK l 4
theorem KV0 (k l n:Nat):(TO0 k l n).length=8:=by simp [TO0,Az]
def AZ0 (k l:Nat) (cs:List ByteArray) (i:Nat):List UInt8:=TO0 k l cs.length++Wi cs i++List.replicate (1012-2*i-Il (cs.take i)) 0++Jd (cs.take i)
theorem CY0 {cs:List ByteArray} (h:Be cs≤1012) (i:Nat) (hi:i≤cs.length):Il (cs.take i)+2*i≤1012:=by
 have:=MF0 (cs.take i);have h2:=Xz cs i;rw [List.length_take,Nat.min_eq_left hi] at this;omega
theorem BH0 {k l:Nat} {cs:List ByteArray} (h:Be cs≤1012) {i:Nat} (hi:i≤cs.length):(AZ0 k l cs i).length=1020:=by
 have:=CY0 h i hi;simp only [AZ0,List.length_append,KV0,Yj,List.length_replicate,DX0];omega
def Oq (k l:Nat) (cs:List ByteArray):List UInt8:=beK (JJ0 (AZ0 k l cs cs.length)) 4++AZ0 k l cs cs.length
theorem Yo {k l:Nat} {cs:List ByteArray} (h:Be cs≤1012):(Oq k l cs).length=1024:=by
 simp only [Oq,List.length_append,Az,BH0 h (Nat.le_refl _)]
section
variable {α:Type}
theorem Xv (a m b x:List α) (hx:x.length=m.length):splice (a++m++b) a.length x=a++x++b:=by
 unfold splice
 have e1:(a++m++b).take a.length=a:=by rw [List.append_assoc,List.take_left]
 have e2:(a++m++b).drop (a.length+x.length)=b:=by rw [hx,← List.length_append,List.drop_left]
 rw [e1,e2,List.append_assoc]
theorem Zq {a m b x:List α} {o:Nat} (ho:a.length=o) (hx:x.length=m.length):splice (a++m++b) o x=a++x++b:=by
 subst ho;exact Xv a m b x hx
theorem Qp (L:List α) (o:Nat) (x:List α) (h:o+x.length≤L.length):(splice L o x).length=L.length:=length_splice L o x h
theorem OU0 (L:List α) (o:Nat):splice L o []=L:=by simp [splice]
end
def Yt (k l:Nat) (cs:List ByteArray) (i:Nat):List UInt8:=[0,0,0,0]++AZ0 k l cs i
theorem OK0 (k l:Nat) (cs:List ByteArray):splice (splice ((List.replicate 1024 (0:UInt8)).set 4 (UInt8.ofNat k)) 6 (beK cs.length 2)) 8 (beK l 4)=Yt k l cs 0:=by
 have e1:(List.replicate 1024 (0:UInt8)).set 4 (UInt8.ofNat k)=[0,0,0,0,UInt8.ofNat k,0]++[0,0]++List.replicate 1016 0:=by
  rw [show (1024:Nat)=5+1019 from rfl,← List.replicate_append_replicate]
  rw [show (1019:Nat)=3+1016 from rfl,← List.replicate_append_replicate]
  rfl
 rw [e1,show (6:Nat)=([0,0,0,0,UInt8.ofNat k,0]:List UInt8).length from rfl,Xv _ _ _ _ (by rw [Az];rfl)]
 have e2:(List.replicate 1016 (0:UInt8))=[0,0,0,0]++List.replicate 1012 0:=by
  rw [show (1016:Nat)=4+1012 from rfl,← List.replicate_append_replicate];rfl
 rw [e2,← List.append_assoc,show (8:Nat)=([0,0,0,0,UInt8.ofNat k,0]++beK cs.length 2:List UInt8).length by simp [Az],Xv _ _ _ _ (by rw [Az];rfl)]
 have e3:1012-2*0-Il (cs.take 0)=1012:=rfl;simp only [Yt,AZ0,TO0,Wi,e3,List.take_zero,Jd,List.append_nil,List.append_assoc]
 rfl
theorem RP0 {k l:Nat} {cs:List ByteArray} (h:Be cs≤1012) {i:Nat} (hi:i<cs.length) :
 splice (splice (splice (Yt k l cs i) (12+2*i) (beK (1024-Il (cs.take (i+1))) 2)) (1024-Il (cs.take (i+1))) (beK cs[i].size 2)) (1024-Il (cs.take (i+1))+2) cs[i].data.toList=Yt k l cs (i+1):=by
 have b1:=CY0 h (i+1) (by omega)
 have b2:=Us cs hi
 have hb:Jd (cs.take (i+1))=beK cs[i].size 2++cs[i].data.toList++Jd (cs.take i):=by rw [List.take_succ_eq_append_getElem hi,FF0]
 have hbl:=DX0 (cs.take i)
 have hcl:cs[i].data.toList.length=cs[i].size:=by simp
 generalize hB:Il (cs.take (i+1))=B at *
 generalize hb0:Il (cs.take i)=b0 at *
 generalize hc:cs[i].size=m at *
 generalize hd:cs[i].data.toList=d at *
 have ez:1012-2*i-b0=2+(1012-2*(i+1)-B)+2+m:=by omega
 obtain ⟨P,hP⟩:∃ P:List UInt8,[0,0,0,0]++TO0 k l cs.length++Wi cs i=P:=⟨_,rfl⟩;obtain ⟨Z,hZ⟩:∃ Z:List UInt8,List.replicate (1012-2*(i+1)-B) 0=Z:=⟨_,rfl⟩
 have e0:Yt k l cs i=P++[0,0]++(Z++([0,0]++(List.replicate m 0++Jd (cs.take i)))):=by
  rw [← hP,← hZ];simp only [Yt,AZ0,hb0,ez,← List.replicate_append_replicate,List.append_assoc]
  rfl
 have l1:P.length=12+2*i:=by rw [← hP];simp only [List.length_append,KV0,Yj];rfl
 have lz:Z.length=1012-2*(i+1)-B:=by rw [← hZ,List.length_replicate]
 have s1:splice (P++[0,0]++(Z++([0,0]++(List.replicate m 0++Jd (cs.take i))))) (12+2*i) (beK (1024-B) 2)=(P++beK (1024-B) 2++Z)++[0,0]++(List.replicate m 0++Jd (cs.take i)):=by
  rw [Zq l1 (by rw [Az];rfl)];simp only [List.append_assoc]
 have l2:(P++beK (1024-B) 2++Z).length=1024-B:=by rw [List.length_append,List.length_append,l1,Az,lz];omega
 have s2:splice ((P++beK (1024-B) 2++Z)++[0,0]++(List.replicate m 0++Jd (cs.take i))) (1024-B) (beK m 2)=(P++beK (1024-B) 2++Z++beK m 2)++List.replicate m 0++Jd (cs.take i):=by
  rw [Zq l2 (by rw [Az];rfl)];simp only [List.append_assoc]
 have l3:(P++beK (1024-B) 2++Z++beK m 2).length=1024-B+2:=by rw [List.length_append,l2,Az]
 have s3:splice ((P++beK (1024-B) 2++Z++beK m 2)++List.replicate m 0++Jd (cs.take i)) (1024-B+2) d=(P++beK (1024-B) 2++Z++beK m 2)++d++Jd (cs.take i):=by
  rw [Zq l3 (by rw [hcl,List.length_replicate])]
 rw [e0,s1,s2,s3,← hP,← hZ];simp only [Yt,AZ0,hB,Wi,hb,List.append_assoc]
theorem YA0 {k l:Nat} {cs:List ByteArray}:splice (Yt k l cs cs.length) 0 (beK (JJ0 (AZ0 k l cs cs.length)) 4)=Oq k l cs:=by
 have:=Xv [] [0,0,0,0] (AZ0 k l cs cs.length) (beK (JJ0 (AZ0 k l cs cs.length)) 4) (by rw [Az];rfl)
 simpa [Yt,Oq] using this
theorem Oo {k l:Nat} {cs:List ByteArray} (h:Be cs≤1012) {i:Nat} (hi:i≤cs.length):(Yt k l cs i).length=1024:=by
 simp only [Yt,List.length_append,BH0 h hi];rfl
def Bq:List Oper→List Value→Act→Act
 | o :: l,u :: us,a=>Bq l us (a.put o.dst u)
 | _,_,a=>a
theorem PC0 (a:Act) (x:Option Tmp) (u v:Value):(a.put x u).put x v=a.put x v:=by
 cases x with
 | none=>rfl
 | some d=>simp [Act.put,Array.setIfInBounds_setIfInBounds]
theorem AQ1 (a:Act) (x:Option Tmp):∃ u,a.put x u=a:=by
 cases x with
 | none=>exact ⟨undef,rfl⟩
 | some d =>
   refine ⟨a.tmps.getD d undef, ?_⟩
   have:a.tmps.setIfInBounds d (a.tmps.getD d undef)=a.tmps:=by
    apply Array.ext
    ·simp
    ·intro i h1 h2
     rw [Array.getElem_setIfInBounds]
     split
     ·rename_i e;subst e;simp [Array.getD_eq_getD_getElem?,h2]
     ·rfl
   show ({ a with tmps:=_ }:Act)=a
   rw [this]
theorem JQ0 (x:Option Tmp) (v:Value):∀ (l:List Oper) (us:List Value) (a:Act),(∀ o∈l,∀ d,x=some d→o.dst≠some d)→(Bq l us a).put x v=Bq l us (a.put x v)
 | [],_,_,_=>by simp [Bq]
 | _ :: _,[],_,_=>by simp [Bq]
 | o :: l,u :: us,a,h=>by
   simp only [Bq]
   rw [JQ0 x v l us _ (fun y hy=>h y (List.mem_cons_of_mem _ hy)),Act.put_comm a (x:=o.dst) (y:=x) u v (fun d hd hx=>h o (List.mem_cons_self ..) d hx hd)]
theorem Zt:∀ (l:List Oper) (a:Act),∃ us,us.length=l.length∧Bq l us a=a
 | [],a=>⟨[],rfl,rfl⟩
 | o :: l,a=>by
   obtain ⟨u,hu⟩:=AQ1 a o.dst;obtain ⟨us,hl,hf⟩:=Zt l a
   exact ⟨u :: us,by simp [hl],by simp only [Bq];rw [hu,hf]⟩
def Kr:List Oper→Bool
 | []=>true
 | o :: l=>(l.all fun y=>match o.dst with | some d=>y.dst != some d | none=>true) && Kr l
theorem EH0 (v:Value):∀ (l:List Oper) (us:List Value) (i:Nat) (o:Oper) (a:Act),Kr l=true→us.length=l.length→l[i]? = some o→(Bq l us a).put o.dst v=Bq l (us.set i v) a
 | [],_,_,_,_,_,_,h=>by simp at h
 | x :: l,u :: us,i,o,a,hd,hl,hi=>by
   simp only [Kr,Bool.and_eq_true,List.all_eq_true] at hd
   cases i with
   | zero =>
     simp only [List.getElem?_cons_zero,Option.some.injEq] at hi;subst hi;simp only [Bq,List.set_cons_zero]
     rw [JQ0 _ _ _ _ _ (fun y hy d hx=>by have:=hd.1 y hy;rw [hx] at this;simpa using this),PC0]
   | succ i =>
     simp only [List.getElem?_cons_succ] at hi;simp only [Bq,List.set_cons_succ]
     exact EH0 v l us i o _ hd.2 (by simpa using hl) hi
 | _ :: _,[],_,_,_,_,hl,_=>by simp at hl
def BW1 (md:Region.Mode) (n:Nat) (acc:List (List Bool)) (o:Oper):List Bool :=
 (List.range n).map fun j=>o.after.toList.any fun e=>Region.binds md e && (e.on == j || (acc.getD e.on []).getD j false)
def Tc (md:Region.Mode) (n:Nat) (l:List Oper):List (List Bool):=l.foldl (fun acc o=>acc++[BW1 md n acc o]) []
theorem SC0 (md:Region.Mode) (n:Nat) (l:List Oper) (o:Oper):Tc md n (l++[o])=Tc md n l++[BW1 md n (Tc md n l) o]:=by
 simp [Tc,List.foldl_append]
theorem AC0 (md:Region.Mode) (n:Nat):∀ (l:List Oper) (acc:List (List Bool)),(l.foldl (fun acc o=>acc++[BW1 md n acc o]) acc).length=acc.length+l.length
 | [],acc=>by simp
 | o :: l,acc=>by
   rw [List.foldl_cons,AC0 md n l,List.length_append,List.length_cons,List.length_cons,List.length_nil];omega
theorem JZ0 (md:Region.Mode) (n:Nat) (l:List Oper):(Tc md n l).length=l.length:=by
 unfold Tc;rw [AC0];simp
theorem Zz (md:Region.Mode) (n:Nat):∀ (r:List Oper) (acc:List (List Bool)),∃ t,r.foldl (fun acc o=>acc++[BW1 md n acc o]) acc=acc++t
 | [],acc=>⟨[],by simp⟩
 | o :: r,acc=>by
   obtain ⟨t,ht⟩:=Zz md n r (acc++[BW1 md n acc o])
   exact ⟨BW1 md n acc o :: t,by rw [List.foldl_cons,ht,List.append_assoc];rfl⟩
theorem KX0 (md:Region.Mode) (n:Nat) (l r:List Oper):∃ t,Tc md n (l++r)=Tc md n l++t:=by
 unfold Tc;rw [List.foldl_append];exact Zz md n r _
def waits (md:Region.Mode) (l:List Oper) (k j:Nat):Bool:=((Tc md l.length l).getD k []).getD j false
theorem Ns {md:Region.Mode} {l:List Oper} {k j:Nat} {o:Oper} (ho:l[k]? = some o) (h:waits md l k j=true):∃ e∈o.after,Region.binds md e=true∧(e.on=j∨(e.on<k∧waits md l e.on j=true)):=by
 have hk:k<l.length:=(List.getElem?_eq_some_iff.1 ho).1
 have hsplit:l=l.take k++[o]++l.drop (k+1):=by
  rw [List.append_assoc,List.singleton_append,← (List.getElem?_eq_some_iff.1 ho).2,← List.drop_eq_getElem_cons hk,List.take_append_drop]
 obtain ⟨t,ht⟩:=KX0 md l.length (l.take k++[o]) (l.drop (k+1));rw [← hsplit,SC0] at ht
 have hlen:(Tc md l.length (l.take k)).length=k:=by rw [JZ0,List.length_take];omega
 have hat:(Tc md l.length l).getD k []=BW1 md l.length (Tc md l.length (l.take k)) o:=by
  rw [ht,List.append_assoc,List.getD_eq_getElem?_getD,List.getElem?_append_right (by omega),hlen]
  simp
 have hbef:∀ q,q<k→(Tc md l.length l).getD q []=(Tc md l.length (l.take k)).getD q []:=fun q hq=>by
  rw [ht,List.append_assoc,List.getD_eq_getElem?_getD,List.getElem?_append_left (by omega),List.getD_eq_getElem?_getD]
 unfold waits at h;rw [hat] at h
 have hj:j<l.length:=by
  rcases Nat.lt_or_ge j l.length with h1 | h1
  ·exact h1
  ·rw [List.getD_eq_getElem?_getD,List.getElem?_eq_none (by simpa [BW1] using h1)] at h
   cases h
 have h':(o.after.toList.any fun e=>Region.binds md e && (e.on == j || ((Tc md l.length (l.take k)).getD e.on []).getD j false))=true:=by
  rw [List.getD_eq_getElem?_getD] at h;unfold BW1 at h;rw [List.getElem?_map,List.getElem?_range hj] at h;exact h
 obtain ⟨e,he,hh⟩:=List.any_eq_true.1 h';simp only [Bool.and_eq_true,Bool.or_eq_true,beq_iff_eq] at hh
 refine ⟨e,by simpa using he,hh.1,hh.2.imp id fun h2=>?_⟩
 have hek:e.on<k:=by
  rcases Nat.lt_or_ge e.on k with h1 | h1
  ·exact h1
  ·have hn:(Tc md l.length (l.take k)).getD e.on []=[]:=by rw [List.getD_eq_getElem?_getD,List.getElem?_eq_none (by omega)];rfl
   rw [hn] at h2;simp at h2
 exact ⟨hek,by unfold waits;rw [hbef _ hek];exact h2⟩
def UT0 (md:Region.Mode):Nat→List Oper→Bool
 | _,[]=>true
 | k,o :: l=>(o.after.toList.all fun e=>!Region.binds md e || decide (e.on<k)) && UT0 md (k+1) l
theorem Yz {md:Region.Mode}:∀ {k:Nat} {l:List Oper},UT0 md k l=true→∀ (i:Nat) (o:Oper),l[i]? = some o→∀ e∈o.after,Region.binds md e=true→e.on<k+i
 | _,[],_,_,_,h,_,_,_=>by simp at h
 | k,x :: l,hB,i,o,hi,e,he,hb=>by
   simp only [UT0,Bool.and_eq_true,List.all_eq_true,Bool.or_eq_true,decide_eq_true_eq] at hB
   cases i with
   | zero =>
     simp only [List.getElem?_cons_zero,Option.some.injEq] at hi;subst hi
     rcases hB.1 e (by simpa using he) with h | h
     ·simp [hb] at h
     ·simpa using h
   | succ i =>
     have:=Yz hB.2 i o (by simpa using hi) e he hb
     omega
def JF0 (md:Region.Mode) (m:Nat) (l:List Oper):Bool :=
 UT0 md 0 l && (List.range l.length).all fun k=>decide (k<m) || (List.range k).all fun j=>waits md l k j
theorem Nl {md:Region.Mode} {m:Nat} {l:List Oper} (h:JF0 md m l=true) {i:Nat} {o:Oper} (hi:l[i]? = some o) {e:Edge} (he:e∈o.after) (hb:Region.binds md e=true):e.on<i:=by
 simp only [JF0,Bool.and_eq_true] at h;have:=Yz h.1 i o hi e he hb;omega
theorem CN0 {md:Region.Mode} {m:Nat} {l:List Oper} (h:JF0 md m l=true) {k j:Nat} (hk:k<l.length) (hm:m≤k) (hj:j<k):waits md l k j=true:=by
 simp only [JF0,Bool.and_eq_true,List.all_eq_true,List.mem_range,Bool.or_eq_true,decide_eq_true_eq] at h
 rcases h.2 k hk with h1 | h1
 ·omega
 ·exact h1 j hj
theorem MV0 {md:Region.Mode} {m:Nat} {l:List Oper} (hB:JF0 md m l=true):∀ {k j:Nat},k<j→j<l.length→waits md l k j=false:=by
 intro k
 induction k using Nat.strongRecOn with
 | _ k ih =>
   intro j hkj hj
   cases hw:waits md l k j with
   | false=>rfl
   | true =>
     exfalso
     have hk:l[k]? = some l[k]:=by simp
     obtain ⟨e,he,hb,h⟩:=Ns hk hw;have hlt:=Nl hB hk he hb
     rcases h with h | ⟨_,h⟩
     ·omega
     ·rw [ih e.on hlt (by omega) hj] at h;cases h
section
variable {P:Program} {md:Region.Mode} {Q:Exit→Act→World→Prop}
theorem getD_lt {l:Array Bool} {j:Nat} (h:j<l.size) (d:Bool):l.getD j d=l[j]:=by simp [Array.getD_eq_getD_getElem?,h]
theorem Ep {l:Array Bool} {i j:Nat} (d:Bool):(l.setIfInBounds i true).getD j d=if i=j∧j<l.size then true else l.getD j d:=by
 by_cases hj:j<l.size
 ·rw [getD_lt (by simpa using hj),getD_lt hj,Array.getElem_setIfInBounds]
  ·simp [hj]
  ·exact hj
 ·rw [if_neg (fun h=>hj h.2)]
  simp [Array.getD_eq_getD_getElem?,hj]
theorem Zw {ops:Array Oper} {m:Nat} (hB:JF0 md m ops.toList=true):∀ (rest:List Oper) (k:Nat) (listed:Array Bool) (b:Act) (w:World),m≤k→listed.size=ops.size→(∀ j,j<k→listed.getD j false=true) →
 (∀ j,k≤j→j<ops.size→listed.getD j true=false)→rest=ops.toList.drop k→wpList P ops Q rest b w→wpAny P md ops Q rest.length listed b w
 | [],k,listed,b,w,_,hs,ht,_,hr,h=>by
   refine ⟨?_,h⟩
   have hk:ops.size≤k:=by
    have:=congrArg List.length hr;simp at this;omega
   apply List.eq_nil_iff_forall_not_mem.2
   intro j hj;obtain ⟨h0,o,ho,_⟩:=mem_ready.1 hj;have hlt:j<ops.size:=(Array.getElem?_eq_some_iff.1 ho).1
   have:=ht j (by omega)
   rw [getD_lt (by omega)] at h0 this
   rw [h0] at this;cases this
 | o :: rest,k,listed,b,w,hm,hs,ht,hf,hr,h=>by
   have hlt:k<ops.size:=by
    have:=congrArg List.length hr;simp at this;omega
   have hok:ops[k]? = some o:=by
    have:(ops.toList.drop k)[0]? = some o:=by rw [← hr];rfl
    simpa using this
   have hrest:rest=ops.toList.drop (k+1):=by
    have:=congrArg List.tail hr
    simpa using this
   have hkr:k∈Region.ready md ops listed:=mem_ready.2 ⟨hf k (Nat.le_refl _) hlt,o,hok,fun e he hb=>ht _ (by
    exact Nl hB (i:=k) (o:=o) (by simpa using hok) he hb)⟩
   refine ⟨(fun h0=>by rw [h0] at hkr;cases hkr),fun i hi=>?_⟩
   obtain ⟨hi0,oi,hoi,hall⟩:=mem_ready.1 hi;have hilt:i<ops.size:=(Array.getElem?_eq_some_iff.1 hoi).1
   have hik:¬ i<k:=fun hh=>by
    have:=ht i hh
    rw [getD_lt (by omega)] at hi0 this
    rw [hi0] at this;cases this
   have hki:¬ k<i:=fun hh=>by
    obtain ⟨e,he,hb,hon⟩:=Ns (by simpa using hoi) (CN0 hB (k:=i) (j:=k) (by simpa using hilt) (by omega) hh)
    have h1:=hall e he hb
    have hel:e.on<ops.size:=by have:=Nl hB (i:=i) (o:=oi) (by simpa using hoi) he hb;omega
    have hek:k≤e.on:=by
     rcases hon with h2 | ⟨_,h2⟩
     ·omega
     ·rcases Nat.lt_or_ge e.on k with h3 | h3
      ·exact absurd h2 (by rw [MV0 hB h3 hlt];simp)
      ·exact h3
    have h2:=hf e.on hek hel
    rw [getD_lt (by omega)] at h1 h2
    rw [h1] at h2;cases h2
   obtain rfl:i=k:=by omega
   have h':wpOp P ops Q i (wpList P ops Q rest) b w:=by
    unfold wpOp;rw [hok];exact h
   refine wpOp_mono (fun a' w' hh=>?_) h'
   refine Zw hB rest (i+1) _ a' w' (by omega) (by simpa using hs) (fun j hj=>?_) (fun j hj hjs=>?_) hrest hh
   ·rw [Ep]
    split
    ·rfl
    ·rename_i hn
     exact ht j (by
      rcases Nat.lt_or_ge j i with h1 | h1
      ·exact h1
      ·exact absurd ⟨by omega,by omega⟩ hn)
   ·rw [Ep]
    rw [if_neg (by omega)]
    exact hf j (by omega) hjs
def Cj (P:Program) (R:Value→World→Prop):Result Next→Prop
 | .ok (.value u) w'=>R u w'
 | .ok .skip w'=>R undef w'
 | .ok (.enter f args) w'=>Calls P f args w' (fun e w''=>∃ v,e = .returned v∧R v w'')
 | _=>False
def Fv (P:Program) (ops:Array Oper) (PP:Nat→Value→World→Prop) (own:Nat→Value→Option Nat) (i:Nat) (o:Oper) (A:Act) (w:World):Prop :=
 if Region.wanted o (yielded ops A.tmps) then Cj P (fun v w'=>Below w.heap.size w w'∧PP i v w'∧∀ b,own i v=some b→w.heap.size≤b) ((execOp A.eval o).run P w) else PP i undef w
attribute [local go_sem] Fv Cj
theorem FV0 {o:Oper} {A:Act} {w:World} {R:Value→World→Prop} (h:Cj P R ((execOp A.eval o).run P w)):o.wp P A w (fun a' w'=>∃ v,a'=A.put o.dst v∧R v w') Q:=by
 unfold Oper.wp
 generalize (execOp A.eval o).run P w=r at *
 cases r with
 | ok n w' =>
   cases n <;> simp only [Cj] at h <;> simp only [Oper.upon]
   case value u=>exact ⟨u,rfl,h⟩
   case skip=>exact ⟨undef,rfl,h⟩
   case enter f args=>exact h.mono fun e w'' ⟨v,he,hr⟩=>by subst he;exact ⟨v,rfl,hr⟩
 | halt x w'=>simp only [Cj] at h
theorem AX1 {ops:Array Oper} {PP:Nat→Value→World→Prop} {own:Nat→Value→Option Nat} {i:Nat} {o:Oper} {A:Act} {w:World} (hg:o.guard=none) (h:Cj P (fun v w'=>Below w.heap.size w w'∧PP i v w'∧∀ b,own i v=some b→w.heap.size≤b) ((execOp A.eval o).run P w)):Fv P ops PP own i o A w:=by
 unfold Fv
 rw [if_pos (by simp [Region.wanted,hg])]
 exact h
theorem IA0 {R R':Value→World→Prop} (h:∀ v w,R v w→R' v w) {r:Result Next} (hr:Cj P R r):Cj P R' r:=by
 cases r with
 | ok n w' =>
   cases n <;> simp only [Cj] at hr ⊢
   case value u=>exact h _ _ hr
   case skip=>exact h _ _ hr
   case enter f args=>exact hr.mono fun e w'' ⟨v,he,hv⟩=>⟨v,he,h _ _ hv⟩
 | halt x w'=>simp only [Cj] at hr
def VJ0:Nat→Value→Option Nat:=fun _ _=>none
theorem Ae {ops:Array Oper} {PP:Nat→Value→World→Prop} {i:Nat} {o:Oper} {A:Act} {w:World} (hg:o.guard=none) (h:Cj P (fun v w'=>Below w.heap.size w w'∧PP i v w') ((execOp A.eval o).run P w)):Fv P ops PP VJ0 i o A w :=
 AX1 hg (IA0 (fun _ _ hh=>⟨hh.1,hh.2,fun b hb=>by cases hb⟩) h)
theorem UZ0 {l1 l2:List Oper} {a:Act} {C:World→Prop} {PP:Nat→Value→World→Prop} {own:Nat→Value→Option Nat} (hown:∀ j u w,PP j u w→∀ b,own j u=some b→b<w.heap.size) (hund:∀ j,own j undef=none) (hd:Kr l1=true) (hB:JF0 md l1.length (l1++l2)=true)
 (hC:∀ w w',C w→Below w.heap.size w w'→C w') (hst:∀ j u w w',Below w.heap.size w w'→PP j u w→PP j u w')
 (hops:∀ (us:List Value) (w:World),us.length=l1.length→C w→∀ i o,l1[i]? = some o→(∀ j,(o.after.toList.any fun e=>Region.binds md e && e.on == j)=true→PP j (us.getD j undef) w) →
   Fv P (l1++l2).toArray PP own i o (Bq l1 us a) w)
 (hend:∀ (us:List Value) (w:World),us.length=l1.length→C w→(∀ j,j<l1.length→PP j (us.getD j undef) w)→(∀ i j b,i<l1.length→j<l1.length→i≠j→own i (us.getD i undef)=some b→own j (us.getD j undef)≠some b)→wpList P (l1++l2).toArray Q l2 (Bq l1 us a) w) :
 ∀ (fuel:Nat) (listed:Array Bool) (us:List Value) (w:World),listed.size=l1.length+l2.length→listed.toList.count false=fuel→us.length=l1.length→C w →
   (∀ j,j<l1.length→listed.getD j true=true→PP j (us.getD j undef) w)→(∀ j,l1.length≤j→j<l1.length+l2.length→listed.getD j true=false) →
   (∀ q o,(l1++l2)[q]? = some o→listed.getD q true=true→∀ e∈o.after,Region.binds md e=true→listed.getD e.on false=true) →
   (∀ i j b,i<l1.length→j<l1.length→i≠j→listed.getD i true=true→listed.getD j true=true→own i (us.getD i undef)=some b→own j (us.getD j undef)≠some b) →
   wpAny P md (l1++l2).toArray Q fuel listed (Bq l1 us a) w:=by
 intro fuel
 induction fuel with
 | zero =>
   intro listed us w hs hc hl hCw hP hno hdc hdis
   have hall:∀ j,j<listed.size→listed.getD j true=true:=fun j hj=>by
    have hn:false∉listed.toList:=fun hm=>by have:=List.count_pos_iff.2 hm;omega
    rw [getD_lt hj]
    cases hv:listed[j] with
    | true=>rfl
    | false=>exact absurd (by rw [← hv];simp) hn
   have h2:l2=[]:=by
    cases l2 with
    | nil=>rfl
    | cons x l =>
      have:=hno l1.length (Nat.le_refl _) (by simp)
      rw [hall _ (by rw [hs];simp)] at this
      cases this
   subst h2
   have he:=hend us w hl hCw (fun j hj=>hP j hj (hall j (by rw [hs];simp;omega))) (fun i j b hi hj hne=>hdis i j b hi hj hne (hall i (by rw [hs];simp;omega)) (hall j (by rw [hs];simp;omega)))
   have:=Zw (P:=P) (Q:=Q) (md:=md) (ops:=(l1++[]).toArray) (m:=l1.length) (by simpa using hB) [] l1.length listed (Bq l1 us a) w (Nat.le_refl _) (by simpa using hs)
    (fun j hj=>by have:=hall j (by rw [hs];simp;omega);rw [getD_lt (by rw [hs];simp;omega)] at this ⊢;exact this)
    (fun j hj hjs=>by simp at hjs;omega) (by simp) he
   exact this
 | succ fuel ih =>
   intro listed us w hs hc hl hCw hP hno hdc hdis
   by_cases hall:∀ j,j<l1.length→listed.getD j true=true
   ·have he:=hend us w hl hCw (fun j hj=>hP j hj (hall j hj)) (fun i j b hi hj hne=>hdis i j b hi hj hne (hall i hi) (hall j hj))
    have hlen:l2.length=fuel+1:=by
     rw [← hc]
     have e:listed.toList=List.replicate l1.length true++List.replicate l2.length false:=by
      apply List.ext_getElem
      ·simp [hs]
      ·intro j h1 h2
       have hj:j<listed.size:=by simpa using h1
       rw [List.getElem_append]
       split
       ·rename_i hlt
        have:=hall j (by simpa using hlt)
        rw [getD_lt hj] at this
        simpa using this
       ·rename_i hge
        have:=hno j (by simpa using hge) (by rw [← hs];exact hj)
        rw [getD_lt hj] at this
        simpa using this
     rw [e,List.count_append,List.count_replicate,List.count_replicate];simp
    have:=Zw (P:=P) (Q:=Q) (md:=md) (ops:=(l1++l2).toArray) (m:=l1.length) (by simpa using hB) l2 l1.length listed (Bq l1 us a) w (Nat.le_refl _) (by simpa using hs)
     (fun j hj=>by have:=hall j hj;rw [getD_lt (by rw [hs];omega)] at this ⊢;exact this)
     (fun j hj hjs=>hno j hj (by simpa using hjs)) (by simp) he
    rw [hlen] at this;exact this
   ·have hex:∃ j,j<l1.length∧listed.getD j true=false:=by
     refine Classical.byContradiction fun hne=>hall fun j hj=>?_
     cases hv:listed.getD j true with
     | true=>rfl
     | false=>exact absurd ⟨j,hj,hv⟩ hne
    have hmin:∃ j,j<l1.length∧listed.getD j true=false∧∀ q,q<j→listed.getD q true=true:=by
     obtain ⟨j,hj,hf⟩:=hex
     induction j using Nat.strongRecOn with
     | _ j ihj =>
       by_cases h:∀ q,q<j→listed.getD q true=true
       ·exact ⟨j,hj,hf,h⟩
       ·have:∃ q,q<j∧listed.getD q true=false:=by
         refine Classical.byContradiction fun hne=>h fun q hq=>?_
         cases hv:listed.getD q true with
         | true=>rfl
         | false=>exact absurd ⟨q,hq,hv⟩ hne
        obtain ⟨q,hq,hqf⟩:=this
        exact ihj q hq (by omega) hqf
    obtain ⟨k,hk,hkf,hkmin⟩:=hmin
    have hgetk:(l1++l2).toArray[k]? = some l1[k]:=by simp [List.getElem?_append_left hk,hk]
    have hkr:k∈Region.ready md (l1++l2).toArray listed:=mem_ready.2 ⟨hkf,l1[k],hgetk,fun e he hb=>by
     have hlt:=Nl hB (i:=k) (o:=l1[k]) (by simpa using hgetk) he hb
     have:=hkmin e.on (by omega)
     rw [getD_lt (by rw [hs];omega)] at this ⊢
     exact this⟩
    refine ⟨(fun h0=>by rw [h0] at hkr;cases hkr),fun i hi=>?_⟩
    obtain ⟨hi0,oi,hoi,hafter⟩:=mem_ready.1 hi
    have him:i<l1.length:=by
     rcases Nat.lt_or_ge i l1.length with h | h
     ·exact h
     ·exfalso
      have hil:i<(l1++l2).length:=(List.getElem?_eq_some_iff.1 (show (l1++l2)[i]? = some oi by simpa using hoi)).1
      have key:∀ q,q<(l1++l2).length→waits md (l1++l2) q k=true→(listed.getD q true=true∨q=i)→False:=by
       intro q
       induction q using Nat.strongRecOn with
       | _ q ihq =>
         intro hq hw hor
         have hqo:(l1++l2)[q]? = some (l1++l2)[q]:=by simp
         obtain ⟨e,he,hb,hon⟩:=Ns hqo hw;have hlt:=Nl hB hqo he hb
         have hle:listed.getD e.on false=true:=by
          rcases hor with h1 | h1
          ·exact hdc q _ hqo h1 e he hb
          ·subst h1
           have:(l1++l2)[q]=oi:=by
            have h3:(l1++l2)[q]? = some oi:=by simpa using hoi
            rw [hqo] at h3;exact Option.some.inj h3
           exact hafter e (by rw [← this];exact he) hb
         have hes:e.on<listed.size:=by rw [hs,← List.length_append];omega
         rcases hon with h2 | ⟨_,h2⟩
         ·rw [h2] at hle
          rw [getD_lt (by rw [hs];omega)] at hle hkf
          rw [hle] at hkf;cases hkf
         ·refine ihq e.on hlt (by omega) h2 (.inl ?_)
          rw [getD_lt hes] at hle ⊢;exact hle
      exact key i hil (CN0 hB hil h (by omega)) (.inr rfl)
    have hoi1:l1[i]? = some oi:=by simpa [List.getElem?_append_left him] using hoi
    have hgood:=hops us w hl hCw i oi hoi1 (fun j hj=>by
     obtain ⟨q,hq,hh⟩:=List.any_eq_true.1 hj;simp only [Bool.and_eq_true,beq_iff_eq] at hh
     have hlt:=Nl hB (i:=i) (o:=oi) (by simpa using hoi) (by simpa using hq) hh.1
     have:=hafter _ (by simpa using hq) hh.1
     rw [hh.2] at this hlt
     refine hP j (by omega) ?_
     rw [getD_lt (by rw [hs];omega)] at this ⊢
     exact this)
    have hcount:(listed.setIfInBounds i true).toList.count false=fuel:=by
     have hil:i<listed.toList.length:=by simp [hs];omega
     have hv:listed.toList[i]=false:=by
      rw [getD_lt (by simpa using hil)] at hi0
      simpa using hi0
     rw [Array.toList_setIfInBounds,List.count_set hil,hv,hc];simp
    have next:∀ v w',Below w.heap.size w w'→PP i v w'→(∀ b,own i v=some b→w.heap.size≤b)→wpAny P md (l1++l2).toArray Q fuel (listed.setIfInBounds i true) ((Bq l1 us a).put oi.dst v) w':=fun v w' hb hp hfr=>by
     rw [EH0 v l1 us i oi a hd hl hoi1]
     refine ih _ _ w' (by simpa using hs) hcount (by simpa using hl) (hC w w' hCw hb) (fun j hj hjl=>?_) (fun j hj hjs=>?_) (fun q o hqo hql e he heb=>?_) (fun x y b hx hy hne hxl hyl hox hoy=>?_)
     ·rw [Ep] at hjl
      by_cases hij:i=j
      ·subst hij
       have:(us.set i v).getD i undef=v:=by simp [List.getD,hl,him]
       rw [this];exact hp
      ·rw [if_neg (by omega)] at hjl
       have:(us.set i v).getD j undef=us.getD j undef:=by simp [List.getD,List.getElem?_set_ne hij]
       rw [this];exact hst j _ w w' hb (hP j hj hjl)
     ·rw [Ep,if_neg (by omega)]
      exact hno j hj hjs
     ·have hlist:listed.getD e.on false=true:=by
       rw [Ep] at hql
       by_cases hiq:i=q
       ·subst hiq
        have h3:(l1++l2)[i]? = some oi:=by simpa using hoi
        rw [h3] at hqo
        cases hqo
        exact hafter e he heb
       ·rw [if_neg (fun hh=>hiq hh.1)] at hql
        exact hdc q o hqo hql e he heb
      rw [Ep]
      split
      ·rfl
      ·exact hlist
     ·rw [Ep] at hxl hyl
      have atI:(us.set i v).getD i undef=v:=by simp [List.getD,hl,him]
      have atO:∀ j,i≠j→(us.set i v).getD j undef=us.getD j undef:=fun j hij=>by simp [List.getD,List.getElem?_set_ne hij]
      by_cases hix:i=x
      ·subst hix
       rw [atI] at hox;rw [atO y hne] at hoy
       rw [if_neg (fun hh=>hne hh.1)] at hyl
       have h1:=hfr b hox;have h2:=hown y _ w (hP y hy hyl) b hoy;omega
      ·rw [atO x hix] at hox
       rw [if_neg (fun hh=>hix hh.1)] at hxl
       by_cases hiy:i=y
       ·subst hiy
        rw [atI] at hoy;have h1:=hfr b hoy;have h2:=hown x _ w (hP x hx hxl) b hox;omega
       ·rw [atO y hiy] at hoy
        rw [if_neg (fun hh=>hiy hh.1)] at hyl
        exact hdis x y b hx hy hne hxl hyl hox hoy
    unfold wpOp;simp only [hoi];unfold Fv at hgood
    by_cases hw:Region.wanted oi (yielded (l1++l2).toArray (Bq l1 us a).tmps)=true
    ·rw [if_pos hw] at hgood ⊢
     refine .inl (Oper.wp_mono (fun a' w' hh=>?_) (FV0 hgood))
     obtain ⟨v,rfl,hb,hp,hfr⟩:=hh;exact next v w' hb hp hfr
    ·rw [if_neg hw] at hgood ⊢
     exact next undef w (Below.refl _ _) hgood (fun b hb=>by rw [hund] at hb;cases hb)
def We (P:Program) (ops:Array Oper) (PP:Nat→Value→World→Prop) (own:Nat→Value→Option Nat) (A:Act) (us:List Value) (w:World):Nat→List Oper→Prop
 | _,[]=>True
 | i,o :: l=>((∀ j,(o.after.toList.any fun e=>Region.binds .any e && e.on == j)=true→PP j (us.getD j undef) w)→Fv P ops PP own i o A w)∧We P ops PP own A us w (i+1) l
theorem We.at {P:Program} {ops:Array Oper} {PP:Nat→Value→World→Prop} {own:Nat→Value→Option Nat} {A:Act} {us:List Value} {w:World}:∀ {k:Nat} {l:List Oper},We P ops PP own A us w k l→∀ i o,l[i]? = some o →
 (∀ j,(o.after.toList.any fun e=>Region.binds .any e && e.on == j)=true→PP j (us.getD j undef) w)→Fv P ops PP own (k+i) o A w
 | _,[],_,i,o,h,_=>by simp at h
 | k,x :: l,hg,i,o,hi,hd=>by
   cases i with
   | zero =>
     simp only [List.getElem?_cons_zero,Option.some.injEq] at hi;subst hi;exact hg.1 hd
   | succ i =>
     have:=We.at hg.2 i o (by simpa using hi) hd
     rw [show k+(i+1)=k+1+i by omega]
     exact this
def Rj (PP:Nat→Value→World→Prop) (w:World):Nat→List Value→Prop
 | _,[]=>True
 | i,u :: us=>PP i u w∧Rj PP w (i+1) us
theorem Rj.of {PP:Nat→Value→World→Prop} {w:World}:∀ {k:Nat} {us:List Value},(∀ j,j<us.length→PP (k+j) (us.getD j undef) w)→Rj PP w k us
 | _,[],_=>trivial
 | k,u :: us,h=>⟨h 0 (by simp),Rj.of fun j hj=>by
   have:=h (j+1) (by simpa using hj)
   rw [show k+1+j=k+(j+1) by omega]
   exact this⟩
theorem GU0 {id:Nat} {a:Act} {w:World} {l:List Oper} (m:Nat) (C:World→Prop) (PP:Nat→Value→World→Prop) (own:Nat→Value→Option Nat) (hm:P.follows .mixedOrders=true) (hd:Kr (l.take m)=true) (hB:JF0 .any (l.take m).length l=true)
 (hC:∀ w w',C w→Below w.heap.size w w'→C w') (hst:∀ j u w w',Below w.heap.size w w'→PP j u w→PP j u w') (h0:C { w with drawn:=w.drawn+1 }) (hown:∀ j u w,PP j u w→∀ b,own j u=some b→b<w.heap.size) (hund:∀ j,own j undef=none)
 (hops:∀ (us:List Value) (w:World),us.length=(l.take m).length→C w→We P l.toArray PP own (Bq (l.take m) us a) us w 0 (l.take m))
 (hend:∀ (us:List Value) (w:World),us.length=(l.take m).length→C w→Rj PP w 0 us→(∀ i j b,i<us.length→j<us.length→i≠j→own i (us.getD i undef)=some b→own j (us.getD j undef)≠some b)→wpList P l.toArray Q (l.drop m) (Bq (l.take m) us a) w) :
 (Code.region id l.toArray true).wp P Q a w:=by
 have hl:l.take m++l.drop m=l:=List.take_append_drop m l;obtain ⟨us,hus,hf⟩:=Zt (l.take m) a
 refine wp_region_any hm ?_
 have:=UZ0 (P:=P) (Q:=Q) (md:=.any) (l1:=l.take m) (l2:=l.drop m) (a:=a) (C:=C) (PP:=PP) (own:=own) hown hund hd (by rw [hl];exact hB) hC hst (by rw [hl];exact fun us w h1 h2 i o h3 h4=>by have:=(hops us w h1 h2).at i o h3 h4;rwa [Nat.zero_add] at this)
  (by rw [hl];exact fun us w h1 h2 h3 h4=>hend us w h1 h2 (Rj.of fun j hj=>by rw [Nat.zero_add];exact h3 j (by rw [← h1];exact hj)) (fun i j b hi hj=>h4 i j b (by rw [← h1];exact hi) (by rw [← h1];exact hj))) l.length (Array.replicate l.length false) us
  { w with drawn:=w.drawn+1 } (by rw [Array.size_replicate,← List.length_append,hl]) (by simp) hus h0 (fun j hj hjl=>by
    have:j<l.length:=by rw [List.length_take] at hj;omega
    rw [getD_lt (by simpa using this)] at hjl
    simp at hjl) (fun j _ hj=>by
    have:j<l.length:=by rw [← List.length_append,hl] at hj;exact hj
    rw [getD_lt (by simpa using this)]
    simp) (fun q o hqo hql=>by
    have:q<l.length:=by rw [hl] at hqo;exact (List.getElem?_eq_some_iff.1 hqo).1
    rw [getD_lt (by simpa using this)] at hql
    simp at hql) (fun i _ _ hi _ _ hil=>by
    have:i<l.length:=by rw [List.length_take] at hi;omega
    rw [getD_lt (by simpa using this)] at hil
    simp at hil)
 rw [hf,hl] at this
 simpa using this
theorem Eo {id:Nat} {a:Act} {w:World} {l:List Oper} (m:Nat) (C:World→Prop) (PP:Nat→Value→World→Prop) (hm:P.follows .mixedOrders=true) (hd:Kr (l.take m)=true) (hB:JF0 .any (l.take m).length l=true)
 (hC:∀ w w',C w→Below w.heap.size w w'→C w') (hst:∀ j u w w',Below w.heap.size w w'→PP j u w→PP j u w') (h0:C { w with drawn:=w.drawn+1 })
 (hops:∀ (us:List Value) (w:World),us.length=(l.take m).length→C w→We P l.toArray PP VJ0 (Bq (l.take m) us a) us w 0 (l.take m))
 (hend:∀ (us:List Value) (w:World),us.length=(l.take m).length→C w→Rj PP w 0 us→wpList P l.toArray Q (l.drop m) (Bq (l.take m) us a) w) :
 (Code.region id l.toArray true).wp P Q a w :=
 GU0 m C PP VJ0 hm hd hB hC hst h0 (fun _ _ _ _ b hb=>by cases hb) (fun _=>rfl) hops (fun us w h1 h2 h3 _=>hend us w h1 h2 h3)
end
open Go.BigFrame
attribute [local go_sem] Fv Cj Bq Act.put
def SS (w:World) (A:Option Addr) (n:Nat) (l:List ByteArray):Prop :=
 l.length=n∧(0<n→∃ b off,A=some ⟨b,off,none⟩∧b<w.heap.size∧∀ i v,l[i]? = some v→w.cell? ⟨b,off+i,none⟩=some (.string v))
theorem SS.keep {w w':World} {A:Option Addr} {n:Nat} {l:List ByteArray} (h:SS w A n l) (hb:Below w.heap.size w w'):SS w' A n l :=
 ⟨h.1,fun hn=>by
   obtain ⟨b,off,hA,hl,hc⟩:=h.2 hn
   exact ⟨b,off,hA,Nat.lt_of_lt_of_le hl hb.size,fun i v hv=>(hb.cell (p:=⟨b,off+i,none⟩) hl).trans (hc i v hv)⟩⟩
theorem Gh (A:Option Addr) (n c:Nat) (cs:List ByteArray) (w:World) (h:SS w A n cs) (hn:n≤4194304) (hu:Be cs≤8388608) :
 Calls Tryz.prog 141 #[.slice A n c] w fun e w'=>e = .returned (.int .i64 (Be cs:Nat))∧w=w':=by
 go_enter Tryz.func141,Tryz.ntmps141
 go_wp2_with fail
 go_loop [3,8] (fun v3 v8=>∃ i:Nat,i≤n∧v8 = .int .i64 i∧v3 = .int .i64 (Be (cs.take i):Nat)) (fun _ v8=>n-(intOf v8).toNat)
 case atStart=>exact ⟨0,Nat.zero_le _,rfl,rfl⟩
 case round =>
  obtain ⟨i,hi,rfl,rfl⟩:=hrel
  by_cases h1:i<n
  ·obtain ⟨b,off,rfl,hb,hc⟩:=h.2 (by omega)
   have hl:i<cs.length:=by rw [h.1];exact h1
   have c0:=hc i cs[i] (by simp [hl])
   have E:=Ac (TM0 cs hl);have x1:=Xz cs (i+1);rw [E.out] at x1;obtain ⟨x,hx⟩:∃ x,Be (cs.take i)=x:=⟨_,rfl⟩;rw [hx] at x1;have HX:=Ac hx;rw [hx];clear hx hc
   have x2:x≤8388608:=by omega
   have x3:cs[i].size≤8388608:=by omega
   go_wp2_with fail
   go_round
   case rel=>exact ⟨i+1,by omega,by simp,by rw [E.out,HX.out];simp⟩
   case measure=>simp [intOf];omega
  ·obtain rfl:i=n:=by omega
   have E:=Ac (show ((Be (cs.take i):Nat):Int)=(Be cs:Nat) by rw [← h.1,List.take_length])
   go_wp2_with fail
   go_ret
   exact ⟨Zk E.out,rfl⟩
theorem FJ0 (L:List UInt8) (o:Nat) (x:List UInt8):splice (u8s L) o (u8s x)=u8s (splice L o x):=by
 simp [splice,u8s,List.map_take,List.map_drop]
theorem Hz {P:Program} {w:World} {ops:Array Oper} {rest:List Oper} {o:Oper} {a:Act} {Q:Exit→Act→World→Prop} (hgd:o.guard=none) (d s:Operand) (dT sT:TypeId)
 (ho:o.op = .call { callee:=.builtin .copy,args:=#[d,s],argTypes:=#[dT,sT] }) (elem:TypeId) (hu:P.underlying dT=some (.slice elem)) (hsz:(P.info? elem).map (·.size)=some 1)
 (dp:Option Addr) (dLen dCap:Nat) (A:Option Addr) (m c:Nat) (hd:a.eval d = .slice dp dLen dCap) (hs:a.eval s = .slice A m c) (l:List UInt8) (hl:BS w A m l)
 (g off:Nat) (cur:List UInt8) (t:TypeId) (hg:Has w g t (u8s cur).toArray) (hdp:0<m→dp=some ⟨g,off,none⟩) (hle:m≤dLen) (hfit:off+m≤cur.length)
 (h:∀ w',Has w' g t (u8s (splice cur off l)).toArray→Below g w w'→wpList P ops Q rest (a.put o.dst (goInt m)) w'):wpList P ops Q (o :: rest) a w:=by
 have hlen:(u8s l).length=m:=by rw [Jy,hl.1]
 refine wpList_copy_splice hgd d s dT sT ho elem hu hsz dp A dLen dCap m c hd hs g off (u8s cur) t hg (u8s l) (by rw [hlen];exact (Nat.min_eq_left hle).symm) (fun h0=>?_) (by rw [hlen,Jy];exact hfit) YU0 g w (Below.refl _ _) (Nat.le_refl _) (fun w' hw hb=>?_)
 ·rw [hlen] at h0
  obtain ⟨b,of,hA,hbl,hc⟩:=hl.2 h0
  refine ⟨hdp h0,⟨b,of,none⟩,hA,fun j v hj=>?_⟩
  rw [addr_add];rw [CG0] at hj;obtain ⟨x,hx,rfl⟩:=Option.map_eq_some_iff.1 hj;exact hc j x hx
 ·have hw':=hw.out
  rw [FJ0] at hw';rw [hlen];exact h w' hw' hb
theorem JK0 {P:Program} {w:World} (dT sT ty:TypeId) (elem:TypeId) (hu:P.underlying dT=some (.slice elem)) (hsz:(P.info? elem).map (·.size)=some 1)
 (dp:Option Addr) (dLen dCap:Nat) (x:ByteArray) (g off:Nat) (cur:List UInt8) (t:TypeId) (hg:Has w g t (u8s cur).toArray) (hdp:0<x.size→dp=some ⟨g,off,none⟩) (hle:x.size≤dLen) (hfit:off+x.size≤cur.length) :
 ∃ w',(Builtin.copy_ #[dT,sT] ty #[.slice dp dLen dCap,.string x]).run P w = .ok (goInt x.size) w'∧Has w' g t (u8s (splice cur off x.data.toList)).toArray∧Below g w w':=by
 have hxl:x.data.toList.length=x.size:=by simp
 rcases Nat.eq_zero_or_pos x.size with h0 | h0
 ·have hr:=Lib.run_copy_empty_string (P:=P) w dT sT ty elem dp dLen dCap x hu (by rw [hsz];rfl) h0
  have hx:x.data.toList=[]:=List.eq_nil_of_length_eq_zero (by rw [hxl];exact h0)
  exact ⟨w,by rw [h0];exact hr,by rw [hx,OU0];exact hg,Below.refl _ _⟩
 ·obtain rfl:=hdp h0
  have hr:=Lib.run_copy_row_string (P:=P) w dT sT ty elem g off dLen dCap x _ t hu hsz hg hle (by simpa [Jy] using hfit)
  refine ⟨_,hr, ?_,below_setRow (Below.refl g w) (Nat.le_refl _) _⟩
  have he:((u8s cur).toArray.toList.take off++Lib.byteCells x.data.toList++(u8s cur).toArray.toList.drop (off+x.size))=u8s (splice cur off x.data.toList):=by
   rw [← FJ0,splice,show (Lib.byteCells x.data.toList)=u8s x.data.toList from rfl,Jy,hxl]
   simp
  rw [he];exact setRow_heap w g _ _ t (0,0) hg
theorem OC0 (g o:Nat) (h:o<1024) (w:World):(Instr.sliceAt 228 (.pointer (some ⟨g,0,none⟩)) (some (.int .i64 o)) none none).run Tryz.prog w = .ok (.slice (some ⟨g,o,none⟩) (1024-o) (1024-o)) w:=by
 have h1:(0:Int)≤(o:Int):=by omega
 have h2:(o:Int)≤1024:=by omega
 have h3:¬ 1024=o:=by omega
 go_simp
theorem OG0 (g:Nat) (w:World):(Instr.sliceAt 228 (.pointer (some ⟨g,0,none⟩)) (some (.int .i64 1024)) none none).run Tryz.prog w = .ok (.slice (some ⟨g,0,none⟩) 0 0) w:=by
 go_simp
theorem NL0 (g o m:Nat) (h:o+m≤1024):∃ dp k,(∀ w,(Instr.sliceAt 228 (.pointer (some ⟨g,0,none⟩)) (some (.int .i64 o)) none none).run Tryz.prog w = .ok (.slice dp k k) w)∧(0<m→dp=some ⟨g,o,none⟩)∧m≤k:=by
 by_cases h1:o<1024
 ·exact ⟨_,_,OC0 g o h1,fun _=>rfl,by omega⟩
 ·obtain rfl:o=1024:=by omega
  exact ⟨_,_,OG0 g,fun h=>by omega,by omega⟩
theorem BS.WH0 {w:World} {g:Nat} {t:TypeId} {L m:List UInt8} {n:Nat} (h:Has w g t (u8s L).toArray) (o:Nat) (hn:L.length=o+n) (hm:L.drop o=m):BS w (some ⟨g,o,none⟩) n m:=by
 subst hm
 refine ⟨by rw [List.length_drop];omega,fun _=>⟨g,o,rfl,h.lt,fun i v hv=>?_⟩⟩
 rw [h.cell];rw [List.getElem?_drop] at hv;simp [CG0,hv]
def eqP:List Value→(Value→World→Prop)→Nat→Value→World→Prop
 | [],R,0,u,w=>R u w
 | [],_,_+1,_,_=>True
 | v :: _,_,0,u,_=>u=v
 | _ :: vs,R,j+1,u,w=>eqP vs R j u w
theorem Nk {R:Value→World→Prop} (hR:∀ u (w w':World),Below w.heap.size w w'→R u w→R u w'):∀ (vs:List Value) j u (w w':World),Below w.heap.size w w'→eqP vs R j u w→eqP vs R j u w'
 | [],0,u,w,w',hb,h=>hR u w w' hb h
 | [],_+1,_,_,_,_,h=>h
 | _ :: _,0,_,_,_,_,h=>h
 | _ :: vs,j+1,u,w,w',hb,h=>Nk hR vs j u w w' hb h
def BV (m:Nat) (l:List UInt8) (u:Value) (w:World):Prop:=∃ A c,u = .slice A m c∧BS w A m l
theorem Qd (m:Nat) (l:List UInt8):∀ u (w w':World),Below w.heap.size w w'→BV m l u w→BV m l u w':=fun _ _ _ hb ⟨A,c,e,h⟩=>⟨A,c,e,h.keep hb⟩
theorem CB0 (n:Nat) (hn:n≤9223372036854775807) (w:World):Calls Tryz.prog 192 #[.int .i64 n] w fun e w'=>∃ u,e = .returned u∧Below w.heap.size w w'∧BV 2 (beK n 2) u w' :=
 (GL0 n hn w).mono fun e w' ⟨g,he,hh,hb,_⟩=>⟨_,he,hb,_,_,rfl,by have:=BS.GA0 hh;rwa [Az] at this⟩
theorem FK0 (n:Nat) (hn:n≤4294967295) (w:World):Calls Tryz.prog 193 #[.int .i64 n] w fun e w'=>∃ u,e = .returned u∧Below w.heap.size w w'∧BV 4 (beK n 4) u w' :=
 (WT0 n hn w).mono fun e w' ⟨A,c,he,hh,hb⟩=>⟨_,he,hb,A,c,by rw [Az],by rwa [Az] at hh⟩
theorem sizeByte:(Tryz.prog.info? 5).map (·.size)=some 1:=by kernel_rfl
theorem CO1 (l:List UInt8) (i:Nat) (b:UInt8):(u8s l).toArray.setIfInBounds i (u8v b)=(u8s (l.set i b)).toArray:=by simp [u8s,List.map_set]
theorem AU1 (K:Int) (h0:0≤K) (h1:K≤255):(u8s (List.replicate 1024 0)).toArray.setIfInBounds 4 (.int .u8 K)=(u8s ((List.replicate 1024 0).set 4 (UInt8.ofNat K.toNat))).toArray:=by
 have e:Value.int .u8 K=u8v (UInt8.ofNat K.toNat):=by unfold u8v;rw [Lc];congr 1;omega
 rw [e,CO1]
theorem DJ1 : Tryz.zeroCells228 = (u8s (List.replicate 1024 0)).toArray:=by kernel_rfl
def Dc (K L:Int) (cs:List ByteArray):ByteArray:=if (K<1∨5<K∨L<0∨2147483647<L)∨1012<Be cs then ⟨#[]⟩ else bsOf (Oq K.toNat L.toNat cs)
def Oc (K L:Int) (cs:List ByteArray):Int:=if K<1∨5<K∨L<0∨2147483647<L then 1 else if 1012<Be cs then 5 else 0
theorem Qe (K L:Int) (A:Option Addr) (n c:Nat) (cs:List ByteArray) (w:World) (h:SS w A n cs) (hn:n≤4194304) (hu:Be cs≤8388608) :
 Calls Tryz.prog 122 #[.agg #[.int .i64 K,.int .i64 L,.slice A n c]] w fun e w'=>e = .returned (.tuple #[.string (Dc K L cs),.int .i64 (Oc K L cs)])∧Below w.heap.size w w':=by
 have hb0:=Ac (show Below w.heap.size w (w.alloc (.cells #[.int .i64 K,.int .i64 L,.slice A n c] 114)) from (Below.refl _ _).alloc (Nat.le_refl _) _)
 by_cases hk:K<1∨5<K∨L<0∨2147483647<L
 ·have ANS:Hid (Ending.returned (.tuple #[.string ⟨#[]⟩,.int .i64 1]) = .returned (.tuple #[.string (Dc K L cs),.int .i64 (Oc K L cs)])):=by
   show _=_
   rw [Dc,Oc,if_pos (.inl hk),if_pos hk]
  have hk2:K<1∨(1≤K∧5<K)∨(1≤K∧K≤5∧L<0)∨(1≤K∧K≤5∧0≤L∧2147483647<L):=by omega
  clear hk h
  rcases hk2 with k1 | ⟨k1,k2⟩ | ⟨k1,k2,k3⟩ | ⟨k1,k2,k3,k4⟩
  all_goals
   go_enter Tryz.func122,Tryz.ntmps122
   go_wp2_with fail
   go_ret2
   exact ⟨ANS.out,hb0.out⟩
 ·have k1:1≤K:=by omega
  have k2:K≤5:=by omega
  have k3:0≤L:=by omega
  have k4:L≤2147483647:=by omega
  have U:=Ac (fun w1 (hw:Below w.heap.size w w1)=>Gh A n c cs w1 (h.keep hw) hn hu)
  have HH:=Ac h;clear h hk
  by_cases hr:1012<Be cs
  ·have ANS:Hid (Ending.returned (.tuple #[.string ⟨#[]⟩,.int .i64 5]) = .returned (.tuple #[.string (Dc K L cs),.int .i64 (Oc K L cs)])):=by
    have q1:¬ (K<1∨5<K∨L<0∨2147483647<L):=by omega
    show _=_
    rw [Dc,Oc,if_pos (.inr hr),if_neg q1,if_pos hr]
   go_enter Tryz.func122,Tryz.ntmps122
   go_wp2_with (go_at_call 141;refine (U.out _ hb0.out).mono ?_;rintro e w1 ⟨rfl,rfl⟩)
   go_ret2
   exact ⟨ANS.out,hb0.out⟩
  ·go_enter Tryz.func122,Tryz.ntmps122
   go_upto_region 7 with (go_at_call 141;refine (U.out _ hb0.out).mono ?_;rintro e w1 ⟨rfl,rfl⟩)
   have HX:=(Has.new w 114 #[.int .i64 K,.int .i64 L,.slice A n c]).alloc (.cells (Tryz.zeroCells228.setIfInBounds 4 (.int .u8 K)) 228);have HG:=Has.new (w.alloc (.cells #[.int .i64 K,.int .i64 L,.slice A n c] 114)) 228 (Tryz.zeroCells228.setIfInBounds 4 (.int .u8 K))
   have hbel:=hb0.out.alloc (by simp) (.cells (Tryz.zeroCells228.setIfInBounds 4 (.int .u8 K)) 228)
   simp only [World.size_alloc] at HG
   generalize ((w.alloc (.cells #[.int .i64 K,.int .i64 L,.slice A n c] 114)).alloc (.cells (Tryz.zeroCells228.setIfInBounds 4 (.int .u8 K)) 228))=W at *
   rw [DJ1,AU1 K (by omega) (by omega)] at HG
   refine Eo 5 (Cls (W)) (eqP [.slice (some ⟨w.heap.size+1,6,none⟩) 1018 1018,.pointer (some ⟨w.heap.size,2,none⟩),.slice A n c,.int .i64 n] (BV 2 (beK n 2))) (by kernel_rfl) (by kernel_rfl) (by kernel_rfl) (fun _ _ hC hb=>Cls.step hC hb) ?hst (Cls.start _) ?hops ?hend
   case hst=>exact Nk (Qd _ _) _
   case hops =>
    obtain ⟨a0,a1,a2⟩:=HX.cells3;have z1:=HX.lt;intro us wx hus hC
    obtain ⟨u0,u1,u2,u3,u4,rfl⟩:∃ u0 u1 u2 u3 u4,us=[u0,u1,u2,u3,u4]:=by
     match us,hus with
     | [u0,u1,u2,u3,u4],_=>exact ⟨u0,u1,u2,u3,u4,rfl⟩
    clear hus;simp only [Bq,Act.put,List.take_succ_cons,List.take_zero,List.setIfInBounds_toArray,List.set_cons_zero,List.set_cons_succ]
    refine ⟨fun h=>?_,fun h=>?_,fun h=>?_,fun h=>?_,fun h=>?_,trivial⟩
    ·(clear h;refine Ae rfl ?_;go_simp;exact ⟨Below.refl _ _,rfl⟩)
    ·(clear h;refine Ae rfl ?_;go_simp;exact ⟨Below.refl _ _,rfl⟩)
    ·obtain rfl:=h 1 rfl
     (clear h;refine Ae rfl ?_;obtain ⟨hc,hf⟩:=hC.facts;go_simp;exact ⟨Below.refl _ _,rfl⟩)
    ·obtain rfl:=h 2 rfl
     (clear h;refine Ae rfl ?_;go_simp;exact ⟨Below.refl _ _,rfl⟩)
    ·obtain rfl:=h 3 rfl
     clear h;refine Ae rfl ?_;go_simp
     exact (CB0 n (by omega) _)
   case hend =>
    intro us wx hus hC
    obtain ⟨u0,u1,u2,u3,u4,rfl⟩:∃ u0 u1 u2 u3 u4,us=[u0,u1,u2,u3,u4]:=by
     match us,hus with
     | [u0,u1,u2,u3,u4],_=>exact ⟨u0,u1,u2,u3,u4,rfl⟩
    clear hus;intro hall;obtain ⟨h0,h1,h2,h3,h4,_⟩:=hall;obtain rfl:=h0;obtain ⟨A4,c4,rfl,hB⟩:=h4;have hHG:=HG.Aj hC.bel;have hHX:=HX.Aj hC.bel;have hbw:=Am hbel hC.bel hbel.size;clear h1 h2 h3 HG HX hbel;simp only [Bq,Act.put,List.take_succ_cons,List.take_zero,List.setIfInBounds_toArray,List.set_cons_zero,List.set_cons_succ,List.drop_succ_cons,List.drop_zero]
    refine Hz rfl (.tmp 34) (.tmp 38) 39 39 rfl 5 Tryz.underlying39 sizeByte (some ⟨w.heap.size+1,6,none⟩) 1018 1018 A4 2 c4 rfl rfl _ hB (w.heap.size+1) 6 _ _ hHG (fun _=>rfl) (by omega) (by simp) ?_
    intro w7 HG7 hb7
    have HX7:=hHX.below hb7 (by omega)
    have hbel7:Below w.heap.size w w7:=hbw.trans (hb7.mono (by omega))
    clear hHG hHX hb7 hbw hC hB
    go_wp2_with fail
    have Ak:=Ac (fun w1=>FK0 L.toNat (by omega) w1)
    have eL:((L.toNat:Nat):Int)=L:=by omega
    rw [eL] at Ak
    refine Eo 4 (Cls (w7)) (eqP [.slice (some ⟨w.heap.size+1,8,none⟩) 1016 1016,.pointer (some ⟨w.heap.size,1,none⟩),.int .i64 L] (BV 4 (beK L.toNat 4))) (by kernel_rfl) (by kernel_rfl) (by kernel_rfl) (fun _ _ hC hb=>Cls.step hC hb) ?hst (Cls.start _) ?hops ?hend
    case hst=>exact Nk (Qd _ _) _
    case hops =>
     obtain ⟨a0,a1,a2⟩:=HX7.cells3;have z1:=HX7.lt;intro us wx hus hC
     obtain ⟨u0,u1,u2,u3,rfl⟩:∃ u0 u1 u2 u3,us=[u0,u1,u2,u3]:=by
      match us,hus with
      | [u0,u1,u2,u3],_=>exact ⟨u0,u1,u2,u3,rfl⟩
     clear hus;simp only [Bq,Act.put,List.take_succ_cons,List.take_zero,List.setIfInBounds_toArray,List.set_cons_zero,List.set_cons_succ]
     refine ⟨fun h=>?_,fun h=>?_,fun h=>?_,fun h=>?_,trivial⟩
     ·(clear h;refine Ae rfl ?_;go_simp;exact ⟨Below.refl _ _,rfl⟩)
     ·(clear h;refine Ae rfl ?_;go_simp;exact ⟨Below.refl _ _,rfl⟩)
     ·obtain rfl:=h 1 rfl
      (clear h;refine Ae rfl ?_;obtain ⟨hc,hf⟩:=hC.facts;go_simp;exact ⟨Below.refl _ _,rfl⟩)
     ·obtain rfl:=h 2 rfl
      clear h;refine Ae rfl ?_;go_simp;exact Ak.out _
    case hend =>
     intro us wx hus hC
     obtain ⟨u0,u1,u2,u3,rfl⟩:∃ u0 u1 u2 u3,us=[u0,u1,u2,u3]:=by
      match us,hus with
      | [u0,u1,u2,u3],_=>exact ⟨u0,u1,u2,u3,rfl⟩
     clear hus;intro hall;obtain ⟨h0,h1,h2,h3,_⟩:=hall;obtain rfl:=h0;obtain ⟨A5,c5,rfl,hB⟩:=h3;have hHG:=HG7.Aj hC.bel;have hHX:=HX7.Aj hC.bel;have hbw:=Am hbel7 hC.bel hbel7.size;clear h1 h2 HG7 HX7 hbel7 Ak eL;simp only [Bq,Act.put,List.take_succ_cons,List.take_zero,List.setIfInBounds_toArray,List.set_cons_zero,List.set_cons_succ,List.drop_succ_cons,List.drop_zero]
     refine Hz rfl (.tmp 40) (.tmp 43) 39 39 rfl 5 Tryz.underlying39 sizeByte (some ⟨w.heap.size+1,8,none⟩) 1016 1016 A5 4 c5 rfl rfl _ hB (w.heap.size+1) 8 _ _ hHG (fun _=>rfl) (by omega) (by rw [Qp _ _ _ (by simp [Az])];simp) ?_
     intro w8 HG8 hb8
     have HX8:=hHX.below hb8 (by omega)
     have hbel8:Below w.heap.size w w8:=hbw.trans (hb8.mono (by omega))
     clear hHG hHX hb8 hbw hC hB;rw [← HH.out.1,OK0 K.toNat L.toNat cs] at HG8;obtain ⟨a0,a1,a2⟩:=HX8.cells3;have z1:=HX8.lt;have HP0:=Ac HG8;have HX0:=Ac HX8;have HB0:=Ac hbel8;clear HG8 HX8 hbel8
     go_wp2_with fail
     clear a0 a1 a2 z1
     have hr2:Be cs≤1012:=by omega
     have HR:=Ac hr2
     go_loopw [5,48] (fun v5 v48 wr=>∃ i E:Nat,i≤n∧E=1024-Il (cs.take i)∧v48 = .int .i64 i∧v5 = .int .i64 E∧Has wr (w.heap.size+1) 228 (u8s (Yt K.toNat L.toNat cs i)).toArray∧Has wr w.heap.size 114 #[.int .i64 K,.int .i64 L,.slice A n c]∧Below w.heap.size w wr) (fun _ v48 _=>n-(intOf v48).toNat)
     case atStart=>exact ⟨0,1024,Nat.zero_le _,rfl,rfl,rfl,HP0.out,HX0.out,HB0.out⟩
     case round =>
      clear HP0 HX0 HB0;obtain ⟨i,E,hi,hE,rfl,rfl,HG,HX,hbel⟩:=hrel;have HG0:=Ac HG;have HX0:=Ac HX;have HB0:=Ac hbel;clear HG HX hbel
      by_cases h1:i<n
      ·have hl:i<cs.length:=by rw [HH.out.1];exact h1
       obtain ⟨b,off,rfl,hbl,hc⟩:=HH.out.2 (by omega)
       have c0:=hc i cs[i] (by simp [hl])
       obtain ⟨wc,wf⟩:=Vf HB0.out;have c1:wr.cell? ⟨b,off+i,none⟩=some (.string cs[i]):=(wc _ _ hbl).trans c0
       have z1:b<wr.heap.size:=by have:=HB0.out.size;omega
       have b1:=CY0 HR.out (i+1) (by omega)
       have b2:=Us cs hl;obtain ⟨E',hE'⟩:∃ E':Nat,E'=1024-Il (cs.take (i+1)):=⟨_,rfl⟩;obtain ⟨o1,ho1⟩:∃ o1:Nat,o1=12+2*i:=⟨_,rfl⟩
       have e1:(12:Int)+2*(i:Int)=(o1:Int):=by omega
       have e2:(E:Int)-(2+(cs[i].size:Int))=(E':Int):=by omega
       have m1:o1≤1022:=by omega
       have m2:E'≤1022:=by omega
       have m3:cs[i].size≤1012:=by omega
       have m4:E'+2+cs[i].size≤1024:=by omega
       have m5:E≤1024:=by omega
       have STEP:=Ac (RP0 (k:=K.toNat) (l:=L.toNat) HR.out hl);have HE':=Ac hE';have HO1:=Ac ho1
       have w1:IntKind.i64.wrap (2*(i:Int))=2*(i:Int):=IntWalk.i64_in _ ⟨by omega,by omega⟩
       have w2:IntKind.i64.wrap (o1:Int)=(o1:Int):=IntWalk.i64_in _ ⟨by omega,by omega⟩
       obtain ⟨E2,hE2⟩:∃ E2:Nat,E2=E'+2:=⟨_,rfl⟩
       have e3:(E':Int)+2=(E2:Int):=by omega
       have HE2:=Ac hE2
       have s1:=OC0 (w.heap.size+1) o1 (by omega)
       have s2:=OC0 (w.heap.size+1) E' (by omega)
       obtain ⟨dp,k3,s3,hdp,hk3⟩:=NL0 (w.heap.size+1) E2 cs[i].size (by omega)
       clear wc wf c0 hc b1 b2 hE hE' ho1 hE2
       go_wp2_with fail
       have twoE:=Ac (fun w1=>CB0 E' (by omega) w1)
       have twoC:=Ac (fun w1=>CB0 cs[i].size (by omega) w1)
       refine Eo 6 (Cls (wr)) (eqP [.int .i64 i,.int .i64 (2*(i:Int)),.int .i64 o1,.slice (some ⟨w.heap.size+1,o1,none⟩) (1024-o1) (1024-o1),.int .i64 E'] (BV 2 (beK E' 2))) (by kernel_rfl) (by kernel_rfl) (by kernel_rfl) (fun _ _ hC hb=>Cls.step hC hb) ?hst (Cls.start _) ?hops ?hend
       case hst=>exact Nk (Qd _ _) _
       case hops =>
        intro us wx hus hC
        obtain ⟨u0,u1,u2,u3,u4,u5,rfl⟩:∃ u0 u1 u2 u3 u4 u5,us=[u0,u1,u2,u3,u4,u5]:=by
         match us,hus with
         | [u0,u1,u2,u3,u4,u5],_=>exact ⟨u0,u1,u2,u3,u4,u5,rfl⟩
        clear hus;simp only [Bq,Act.put,List.take_succ_cons,List.take_zero,List.setIfInBounds_toArray,List.set_cons_zero,List.set_cons_succ]
        refine ⟨fun h=>?_,fun h=>?_,fun h=>?_,fun h=>?_,fun h=>?_,fun h=>?_,trivial⟩
        ·(clear h;refine Ae rfl ?_;go_simp;exact ⟨Below.refl _ _,rfl⟩)
        ·obtain rfl:=h 0 rfl
         (clear h;refine Ae rfl ?_;go_simp;exact ⟨Below.refl _ _,rfl⟩)
        ·obtain rfl:=h 1 rfl
         (clear h;refine Ae rfl ?_;go_simp;exact ⟨Below.refl _ _,rfl⟩)
        ·obtain rfl:=h 2 rfl
         (clear h;refine Ae rfl ?_;go_simp;exact ⟨Below.refl _ _,rfl⟩)
        ·(clear h;refine Ae rfl ?_;go_simp;exact ⟨Below.refl _ _,rfl⟩)
        ·obtain rfl:=h 4 rfl
         clear h;refine Ae rfl ?_;go_simp;exact twoE.out _
       case hend =>
        intro us wx hus hC
        obtain ⟨u0,u1,u2,u3,u4,u5,rfl⟩:∃ u0 u1 u2 u3 u4 u5,us=[u0,u1,u2,u3,u4,u5]:=by
         match us,hus with
         | [u0,u1,u2,u3,u4,u5],_=>exact ⟨u0,u1,u2,u3,u4,u5,rfl⟩
        clear hus;intro hall;obtain ⟨h0,h1,h2,h3,h4,h5,_⟩:=hall;obtain rfl:=h3;obtain ⟨A6,c6,rfl,hB⟩:=h5;have hHG:=HG0.out.Aj hC.bel;have hHX:=HX0.out.Aj hC.bel;have hbw:=Am HB0.out hC.bel HB0.out.size;clear h0 h1 h2 h4 HG0 HX0 HB0 twoE;simp only [Bq,Act.put,List.take_succ_cons,List.take_zero,List.setIfInBounds_toArray,List.set_cons_zero,List.set_cons_succ,List.drop_succ_cons,List.drop_zero]
        refine Hz rfl (.tmp 61) (.tmp 63) 39 39 rfl 5 Tryz.underlying39 sizeByte (some ⟨w.heap.size+1,o1,none⟩) (1024-o1) (1024-o1) A6 2 c6 rfl rfl _ hB (w.heap.size+1) o1 _ _ hHG (fun _=>rfl) (by omega) (by rw [Oo HR.out (by omega)];omega) ?_
        intro w9 HG9 hb9
        have HX9:=Ac (hHX.below hb9 (by omega))
        have HB9:=Ac (show Below w.heap.size w w9 from hbw.trans (hb9.mono (by omega)))
        have HP9:=Ac HG9;clear hHG hHX hb9 hbw hC hB HG9
        go_wp2_with fail
        refine Eo 5 (Cls (w9)) (eqP [.int .i64 E',.slice (some ⟨w.heap.size+1,E',none⟩) (1024-E') (1024-E'),.string cs[i],.int .i64 (cs[i].size:Nat)] (BV 2 (beK cs[i].size 2))) (by kernel_rfl) (by kernel_rfl) (by kernel_rfl) (fun _ _ hC hb=>Cls.step hC hb) ?hst (Cls.start _) ?hops ?hend
        case hst=>exact Nk (Qd _ _) _
        case hops =>
         intro us wx hus hC
         obtain ⟨u0,u1,u2,u3,u4,rfl⟩:∃ u0 u1 u2 u3 u4,us=[u0,u1,u2,u3,u4]:=by
          match us,hus with
          | [u0,u1,u2,u3,u4],_=>exact ⟨u0,u1,u2,u3,u4,rfl⟩
         clear hus;simp only [Bq,Act.put,List.take_succ_cons,List.take_zero,List.setIfInBounds_toArray,List.set_cons_zero,List.set_cons_succ]
         refine ⟨fun h=>?_,fun h=>?_,fun h=>?_,fun h=>?_,fun h=>?_,trivial⟩
         ·(clear h;refine Ae rfl ?_;go_simp;exact ⟨Below.refl _ _,rfl⟩)
         ·obtain rfl:=h 0 rfl
          (clear h;refine Ae rfl ?_;go_simp;exact ⟨Below.refl _ _,rfl⟩)
         ·(clear h;refine Ae rfl ?_;go_simp;exact ⟨Below.refl _ _,rfl⟩)
         ·obtain rfl:=h 2 rfl
          (clear h;refine Ae rfl ?_;go_simp;exact ⟨Below.refl _ _,rfl⟩)
         ·obtain rfl:=h 3 rfl
          clear h;refine Ae rfl ?_;go_simp;exact twoC.out _
        case hend =>
         intro us wx hus hC
         obtain ⟨u0,u1,u2,u3,u4,rfl⟩:∃ u0 u1 u2 u3 u4,us=[u0,u1,u2,u3,u4]:=by
          match us,hus with
          | [u0,u1,u2,u3,u4],_=>exact ⟨u0,u1,u2,u3,u4,rfl⟩
         clear hus;intro hall;obtain ⟨h0,h1,h2,h3,h4,_⟩:=hall;obtain rfl:=h1;obtain ⟨A7,c7,rfl,hB⟩:=h4;have hHG:=HP9.out.Aj hC.bel;have hHX:=HX9.out.Aj hC.bel;have hbw:=Am HB9.out hC.bel HB9.out.size;clear h0 h2 h3 HP9 HX9 HB9 twoC;simp only [Bq,Act.put,List.take_succ_cons,List.take_zero,List.setIfInBounds_toArray,List.set_cons_zero,List.set_cons_succ,List.drop_succ_cons,List.drop_zero]
         refine Hz rfl (.tmp 66) (.tmp 69) 39 39 rfl 5 Tryz.underlying39 sizeByte (some ⟨w.heap.size+1,E',none⟩) (1024-E') (1024-E') A7 2 c7 rfl rfl _ hB (w.heap.size+1) E' _ _ hHG (fun _=>rfl) (by omega) (by rw [Qp _ _ _ (by rw [Az,Oo HR.out (by omega)];omega),Oo HR.out (by omega)];omega) ?_
         intro w10 HG10 hb10
         have HX10:=Ac (hHX.below hb10 (by omega))
         have HB10:=Ac (show Below w.heap.size w w10 from hbw.trans (hb10.mono (by omega)))
         have HP10:=Ac HG10;clear hHG hHX hb10 hbw hC hB HG10
         obtain ⟨w11,hcp,HG11,hb11⟩:=JK0 (P:=Tryz.prog) (w:=w10) 39 9 3 5 Tryz.underlying39 sizeByte dp k3 k3 cs[i] (w.heap.size+1) E2 _ _ HP10.out hdp hk3 (by rw [Qp _ _ _ (by rw [Az,Qp _ _ _ (by rw [Az,Oo HR.out (by omega)];omega),Oo HR.out (by omega)];omega),Qp _ _ _ (by rw [Az,Oo HR.out (by omega)];omega),Oo HR.out (by omega)];omega)
         have HX11:=Ac (HX10.out.below hb11 (by omega))
         have HB11:=Ac (show Below w.heap.size w w11 from HB10.out.trans (hb11.mono (by omega)))
         have HP11:=Ac HG11;clear HX10 HB10 HP10 hb11 HG11
         go_wp2_with fail
         have ST:=STEP.out;rw [← HO1.out,← HE'.out,← HE2.out] at ST;rw [ST] at HP11
         go_roundw
         case rel=>exact ⟨i+1,E',by omega,HE'.out,by simp,rfl,HP11.out,HX11.out,HB11.out⟩
         case measure=>simp [intOf];omega
      ·obtain rfl:i=n:=by omega
       obtain ⟨x,hx⟩:∃ x,JJ0 (AZ0 K.toNat L.toNat cs cs.length)=x:=⟨_,rfl⟩;have x1:=NB0 (AZ0 K.toNat L.toNat cs cs.length);rw [hx] at x1
       have x2:(0:Int)≤(x:Int):=by omega
       have x3:(x:Int)≤4294967295:=by omega
       have x4:IntKind.i64.wrap (x:Int)=(x:Int):=IntWalk.i64_in _ ⟨by omega,by omega⟩
       have HX:=Ac hx
       have HM:Hid (Yt K.toNat L.toNat cs i=[0,0,0,0]++AZ0 K.toNat L.toNat cs cs.length):=by rw [← HH.out.1];exact rfl
       have LM:=Ac (BH0 (k:=K.toNat) (l:=L.toNat) HR.out (Nat.le_refl cs.length))
       have four:=Ac (fun w1=>FK0 x (by omega) w1)
       have sum:=Ac (fun w1=>PU0 (bsOf (AZ0 K.toNat L.toNat cs cs.length)) w1 (by rw [Bv,BH0 HR.out (Nat.le_refl _)];omega))
       have sum2:Hid (∀ w1,Calls Tryz.prog 194 #[.string (bsOf (AZ0 K.toNat L.toNat cs cs.length))] w1 fun e w'=>e = .returned (.int .u32 x)∧w1=w'):=fun w1=>by
        have:=sum.out w1;rw [Ha,hx] at this;exact this
       clear hx sum x1;obtain ⟨mid,hmid⟩:∃ m,AZ0 K.toNat L.toNat cs cs.length=m:=⟨_,rfl⟩;rw [hmid] at HM LM sum2;have HMID:=Ac hmid;clear hmid
       go_wp2_with fail
       refine Eo 6 (Cls (wr)) (eqP [.slice (some ⟨w.heap.size+1,0,none⟩) 1024 1024,.slice (some ⟨w.heap.size+1,4,none⟩) 1020 1020,.string (bsOf mid),.int .u32 x,.int .i64 x] (BV 4 (beK x 4))) (by kernel_rfl) (by kernel_rfl) (by kernel_rfl) (fun _ _ hC hb=>Cls.step hC hb) ?hst (Cls.start _) ?hops ?hend
       case hst=>exact Nk (Qd _ _) _
       case hops =>
        intro us wx hus hC
        obtain ⟨u0,u1,u2,u3,u4,u5,rfl⟩:∃ u0 u1 u2 u3 u4 u5,us=[u0,u1,u2,u3,u4,u5]:=by
         match us,hus with
         | [u0,u1,u2,u3,u4,u5],_=>exact ⟨u0,u1,u2,u3,u4,u5,rfl⟩
        clear hus;simp only [Bq,Act.put,List.take_succ_cons,List.take_zero,List.setIfInBounds_toArray,List.set_cons_zero,List.set_cons_succ]
        refine ⟨fun h=>?_,fun h=>?_,fun h=>?_,fun h=>?_,fun h=>?_,fun h=>?_,trivial⟩
        ·(clear h;refine Ae rfl ?_;go_simp;exact ⟨Below.refl _ _,rfl⟩)
        ·(clear h;refine Ae rfl ?_;go_simp;exact ⟨Below.refl _ _,rfl⟩)
        ·obtain rfl:=h 1 rfl
         have hg:=HG0.out.Aj hC.bel
         have hcv:=Wv (c:=1020) (BS.WH0 hg 4 (by rw [HM.out,List.length_append,LM.out];first | done | rfl) (by rw [HM.out];first | done | rfl))
         clear h;refine Ae rfl ?_;go_simp;exact ⟨Below.refl _ _,rfl⟩
        ·obtain rfl:=h 2 rfl
         clear h;refine Ae rfl ?_;go_simp
         refine (sum2.out _).mono ?_
         rintro e w1 ⟨rfl,rfl⟩;exact ⟨_,rfl,Below.refl _ _,rfl⟩
        ·obtain rfl:=h 3 rfl
         (clear h;refine Ae rfl ?_;go_simp;exact ⟨Below.refl _ _,rfl⟩)
        ·obtain rfl:=h 4 rfl
         clear h;refine Ae rfl ?_;go_simp;exact four.out _
       case hend =>
        intro us wx hus hC
        obtain ⟨u0,u1,u2,u3,u4,u5,rfl⟩:∃ u0 u1 u2 u3 u4 u5,us=[u0,u1,u2,u3,u4,u5]:=by
         match us,hus with
         | [u0,u1,u2,u3,u4,u5],_=>exact ⟨u0,u1,u2,u3,u4,u5,rfl⟩
        clear hus;intro hall;obtain ⟨h0,h1,h2,h3,h4,h5,_⟩:=hall;obtain rfl:=h0;obtain ⟨A6,c6,rfl,hB⟩:=h5;have hHG:=HG0.out.Aj hC.bel;have hbw:=Am HB0.out hC.bel HB0.out.size;clear h1 h2 h3 h4 HG0 HX0 HB0 four sum2;simp only [Bq,Act.put,List.take_succ_cons,List.take_zero,List.setIfInBounds_toArray,List.set_cons_zero,List.set_cons_succ,List.drop_succ_cons,List.drop_zero]
        refine Hz rfl (.tmp 77) (.tmp 82) 39 39 rfl 5 Tryz.underlying39 sizeByte (some ⟨w.heap.size+1,0,none⟩) 1024 1024 A6 4 c6 rfl rfl _ hB (w.heap.size+1) 0 _ _ hHG (fun _=>rfl) (by omega) (by rw [HM.out,List.length_append,LM.out];decide) ?_
        intro w9 HG9 hb9
        have HB9:=Ac (show Below w.heap.size w w9 from hbw.trans (hb9.mono (by omega)))
        have hseal:=YA0 (k:=K.toNat) (l:=L.toNat) (cs:=cs);rw [HX.out,HH.out.1] at hseal;rw [hseal] at HG9
        have hcv:=Wv (c:=1024) (BS.WH0 (n:=1024) HG9 0 (by rw [Yo HR.out]) rfl)
        have ANS:Hid (Ending.returned (.tuple #[.string (bsOf (Oq K.toNat L.toNat cs)),.int .i64 0]) = .returned (.tuple #[.string (Dc K L cs),.int .i64 (Oc K L cs)])):=by
         have q1:¬ (K<1∨5<K∨L<0∨2147483647<L):=by omega
         show _=_
         rw [Dc,Oc,if_neg (by omega),if_neg q1,if_neg (by omega)]
        rw [List.drop_zero] at hcv;clear hHG hb9 hbw hC hB HG9 hseal
        go_wp2_with fail
        go_ret2
        exact ⟨ANS.out,HB9.out⟩
def prP:List (Value→World→Prop)→Nat→Value→World→Prop
 | [],_,_,_=>True
 | R :: _,0,u,w=>R u w
 | _ :: Rs,j+1,u,w=>prP Rs j u w
def FT1 (R:Value→World→Prop):Prop:=∀ u (w w':World),Below w.heap.size w w'→R u w→R u w'
def prS:List (Value→World→Prop)→Prop
 | []=>True
 | R :: Rs=>FT1 R∧prS Rs
theorem Yu:∀ (Rs:List (Value→World→Prop)),prS Rs→∀ j u (w w':World),Below w.heap.size w w'→prP Rs j u w→prP Rs j u w'
 | [],_,_,_,_,_,_,h=>h
 | _ :: _,hs,0,u,w,w',hb,h=>hs.1 u w w' hb h
 | _ :: Rs,hs,j+1,u,w,w',hb,h=>Yu Rs hs.2 j u w w' hb h
theorem Ip (v:Value):FT1 (fun u _=>u=v):=fun _ _ _ _ h=>h
theorem WE0 (n:Nat) (w:World):BS (w.alloc (.cells (madeCells #[.int .u8 0] n) 5)) (some ⟨w.heap.size,0,none⟩) n (List.replicate n 0):=by
 have e:madeCells #[Value.int .u8 0] n=(u8s (List.replicate n 0)).toArray:=by
  apply Array.toList_inj.1
  rw [show (u8s (List.replicate n 0)).toArray.toList=List.replicate n (Value.int .u8 0) by simp [u8s,u8v]]
  refine List.eq_replicate_iff.2 ⟨by simp [size_madeCells],fun b hb=>?_⟩
  simp only [madeCells,Array.toList_map,List.mem_map] at hb;obtain ⟨a,_,rfl⟩:=hb
  show (#[Value.int .u8 0]:Array Value)[a % 1]! = _
  rw [Nat.mod_one];rfl
 rw [e];have:=BS.GA0 (Has.new w 5 (u8s (List.replicate n 0)).toArray)
 rwa [List.length_replicate] at this
def Gs (l:List UInt8) (o:Nat):Nat:=256*(l.getD o 0).toNat+(l.getD (o+1) 0).toNat
def Ul (l:List UInt8) (o:Nat):Nat:=65536*Gs l o+Gs l (o+2)
theorem Rn (l:List UInt8) (o:Nat):Gs l o<65536:=by
 have h1:=Ci (l.getD o 0);have h2:=Ci (l.getD (o+1) 0);unfold Gs;omega
theorem RG0 (l:List UInt8) (o:Nat):Ul l o<4294967296:=by
 have h1:=Rn l o;have h2:=Rn l (o+2);unfold Ul;omega
theorem getD_byte (s:ByteArray) (i:Nat) (h:i<s.size):(s.data.toList.getD i 0)=s[i]:=by
 rw [List.getD_eq_getElem?_getD,byte_at s i h];rfl
theorem GJ0 (a b:Nat) (ha:a<4611686018427387904) (hb:b<4611686018427387904):bits .or .i64 (a:Int) (b:Int)=((a ||| b:Nat):Int):=by
 have hx:a ||| b<2 ^ 62:=Nat.or_lt_two_pow (by omega) (by omega)
 have h1:(BitVec.ofInt 64 (a:Int)).toNat=a:=by
  rw [BitVec.ofInt_natCast,BitVec.toNat_ofNat];exact Nat.mod_eq_of_lt (by omega)
 have h2:(BitVec.ofInt 64 (b:Int)).toNat=b:=by
  rw [BitVec.ofInt_natCast,BitVec.toNat_ofNat];exact Nat.mod_eq_of_lt (by omega)
 show IntKind.i64.wrap ((BitVec.ofInt 64 (a:Int) ||| BitVec.ofInt 64 (b:Int)).toNat:Int)=_
 rw [BitVec.toNat_or,h1,h2]
 exact IntWalk.i64_in _ ⟨by omega,by omega⟩
theorem DV1 (a b:Nat) (ha:a<256) (hb:b<256):bits .or .i64 ((a:Int)*256) (b:Int)=((256*a+b:Nat):Int):=by
 rw [show ((a:Int)*256)=((256*a:Nat):Int) by omega,GJ0 _ _ (by omega) (by omega),nat_join 8 (256*a) b (by omega) (by omega)]
theorem ZM0 (a b:Nat) (ha:a<65536) (hb:b<65536):bits .or .i64 ((a:Int)*65536) (b:Int)=((65536*a+b:Nat):Int):=by
 rw [show ((a:Int)*65536)=((65536*a:Nat):Int) by omega,GJ0 _ _ (by omega) (by omega),nat_join 16 (65536*a) b (by omega) (by omega)]
theorem Uc (s:ByteArray) (o:Nat) (ho:o+2≤s.size) (hs:s.size≤1048576) (w:World) :
 Calls Tryz.prog 196 #[.string s,.int .i64 o] w fun e w'=>e = .returned (.int .i64 (Gs s.data.toList o:Nat))∧Below w.heap.size w w':=by
 have h1:o<s.size:=by omega
 have h2:o+1<s.size:=by omega
 have i1:(o:Int)<(s.size:Int):=by omega
 have i2:(o:Int)+1<(s.size:Int):=by omega
 have w1:IntKind.i64.wrap ((o:Int)+1)=(o:Int)+1:=IntWalk.i64_in _ ⟨by omega,by omega⟩
 have w2:((o:Int)+1).toNat=o+1:=by omega
 have w3:(0:Int)≤(o:Int)+1:=by omega
 have b1:=Ci s[o];have b2:=Ci s[o+1]
 have E:bits .or .i64 (wrap64 (wrap64 (s[o].toNat:Int)*256)) (wrap64 (s[o+1].toNat:Int))=((Gs s.data.toList o:Nat):Int):=by
  have e1:wrap64 (s[o].toNat:Int)=(s[o].toNat:Int):=by unfold wrap64;omega
  have e2:wrap64 (s[o+1].toNat:Int)=(s[o+1].toNat:Int):=by unfold wrap64;omega
  have e3:wrap64 ((s[o].toNat:Int)*256)=(s[o].toNat:Int)*256:=by unfold wrap64;omega
  rw [e1,e2,e3,DV1 _ _ b1 b2,Gs,getD_byte s o h1,getD_byte s (o+1) h2]
 have HE:=Ac E;clear E b1 b2
 go_enter Tryz.func196,Tryz.ntmps196
 go_wp2_with fail
 refine Bz (w) (by kernel_rfl) (by kernel_rfl) (Cls.start _) ?_
 repeat
  first
   | go_big_quiet_skip
   | (go_big_quiet_want;(first | go_big_quiet_op | go_simp);first | go_big_quiet_on | (apply Exists.intro;refine ⟨fun w' hw'=>?_, ?_⟩;(·(first | (with_reducible exact rfl) | (fail) | (obtain ⟨hc,hf⟩:=hw'.facts;go_simp;first | done | (with_reducible exact rfl) | (with_reducible exact ⟨rfl,rfl⟩))));go_big_quiet_on))
 refine wpQuiet_nil ?_
 intro wq hq
 go_wp2_with fail
 go_ret
 exact ⟨Zk HE.out,hq.bel⟩
theorem LR0 (s:ByteArray) (o:Nat) (ho:o+4≤s.size) (hs:s.size≤1048576) (w:World) :
 Calls Tryz.prog 195 #[.string s,.int .i64 o] w fun e w'=>e = .returned (.int .i64 (Ul s.data.toList o:Nat))∧Below w.heap.size w w':=by
 have T1:=Ac (fun w1=>Uc s o (by omega) hs w1)
 have t2:=(fun w1=>Uc s (o+2) (by omega) hs w1)
 rw [show ((o+2:Nat):Int)=(o:Int)+2 by omega] at t2
 have T2:=Ac t2;clear t2;have l1:=Rn s.data.toList o;have l2:=Rn s.data.toList (o+2)
 have E:bits .or .i64 ((Gs s.data.toList o:Int)*65536) (Gs s.data.toList (o+2):Int)=((Ul s.data.toList o:Nat):Int):=by
  rw [ZM0 _ _ l1 l2,Ul]
 obtain ⟨x,hx⟩:∃ x,Gs s.data.toList o=x:=⟨_,rfl⟩;obtain ⟨y,hy⟩:∃ y,Gs s.data.toList (o+2)=y:=⟨_,rfl⟩;rw [hx] at E T1 l1;rw [hy] at E T2 l2;have HE:=Ac E;clear E hx hy
 go_enter Tryz.func195,Tryz.ntmps195
 go_wp2_with (first | (go_at_call 196;(with_reducible refine (T1.out _).mono ?_);rintro e w1 ⟨rfl,hb1⟩) | (go_at_call 196;(with_reducible refine (T2.out _).mono ?_);rintro e w2 ⟨rfl,hb2⟩))
 go_ret
 exact ⟨Zk HE.out,Am hb1 hb2 hb1.size⟩
end Go.Proofs.YtjihboddejaelaaGreat
namespace Go.Proofs.YtjihboddejaelaaGreat
open Go.RowKit
def Md (s:ByteArray):Nat→Option (List ByteArray)
 | 0=>some []
 | i+1=>(Md s i).bind fun cs =>
   if 1024<Gs s.data.toList (12+2*i)+2∨1024<Gs s.data.toList (12+2*i)+2+Gs s.data.toList (Gs s.data.toList (12+2*i)) then none
   else some (cs++[s.extract (Gs s.data.toList (12+2*i)+2) (Gs s.data.toList (12+2*i)+2+Gs s.data.toList (Gs s.data.toList (12+2*i)))])
abbrev Pg:=Nat×Nat×List ByteArray
def fin (s:ByteArray) (k l:Nat) (cs:List ByteArray):Option Pg:=if Oc k l cs=0∧Dc k l cs=s then some (k,l,cs) else none
def EV0 (s:ByteArray) (n:Nat):Option Pg:=(Md s n).bind fun cs=>fin s (s.data.toList.getD 4 0).toNat (Ul s.data.toList 8) cs
def Hr (s:ByteArray):Option Pg:=if s.size≠1024∨Ul s.data.toList 0≠JJ0 (s.data.toList.drop 4)∨1024<12+2*Gs s.data.toList 6 then none else EV0 s (Gs s.data.toList 6)
def BF1 (s:ByteArray) (p:Pg):Prop:=1≤p.1∧p.1≤5∧p.2.1≤2147483647∧Be p.2.2≤1012∧bsOf (Oq p.1 p.2.1 p.2.2)=s
theorem GD0 {k l:Nat} {cs:List ByteArray}:Oc k l cs=0↔1≤k∧k≤5∧l≤2147483647∧Be cs≤1012:=by
 unfold Oc
 split
 ·simp;omega
 ·split
  ·simp;omega
  ·simp;omega
theorem Oh {k l:Nat} {cs:List ByteArray} (h:1≤k∧k≤5∧l≤2147483647∧Be cs≤1012):Dc k l cs=bsOf (Oq k l cs):=by
 unfold Dc
 rw [if_neg (by omega)]
 simp
theorem PZ0 {s:ByteArray} {k l:Nat} {cs:List ByteArray} {p:Pg}:fin s k l cs=some p↔p=(k,l,cs)∧BF1 s p:=by
 unfold fin
 constructor
 ·intro h
  split at h
  ·rename_i hc
   injection h with h
   subst h;have:=GD0.1 hc.1
   exact ⟨rfl,this.1,this.2.1,this.2.2.1,this.2.2.2,by rw [← Oh this];exact hc.2⟩
  ·cases h
 ·rintro ⟨rfl,h1,h2,h3,h4,h5⟩
  rw [if_pos ⟨GD0.2 ⟨h1,h2,h3,h4⟩,by rw [Oh ⟨h1,h2,h3,h4⟩];exact h5⟩]
theorem IW0 (a b:List UInt8) (x:UInt8):(a++x :: b).getD a.length 0=x:=by
 rw [List.getD_eq_getElem?_getD,List.getElem?_append_right (Nat.le_refl _)];simp
theorem Xy {a b:List UInt8} {x o:Nat} (ha:a.length=o) (hx:x<65536):Gs (a++(beK x 2++b)) o=x:=by
 subst ha
 have e1:(a++(beK x 2++b)).getD a.length 0=UInt8.ofNat (x / 256):=by rw [Zv];exact IW0 a _ _
 have e2:(a++(beK x 2++b)).getD (a.length+1) 0=UInt8.ofNat x:=by
  rw [Zv,show a++([UInt8.ofNat (x / 256),UInt8.ofNat x]++b)=(a++[UInt8.ofNat (x / 256)])++UInt8.ofNat x :: b by simp]
  have:=IW0 (a++[UInt8.ofNat (x / 256)]) b (UInt8.ofNat x);rw [List.length_append] at this;exact this
 rw [Gs,e1,e2,UInt8.toNat_ofNat',UInt8.toNat_ofNat'];omega
theorem PP0 {a b:List UInt8} {x o:Nat} (ha:a.length=o) (hx:x<4294967296):Ul (a++(beK x 4++b)) o=x:=by
 have e:a++(beK x 4++b)=a++(beK (x / 65536) 2++(beK x 2++b)):=by rw [RI0,List.append_assoc]
 have h1:Gs (a++(beK x 4++b)) o=x / 65536:=by rw [e];exact Xy ha (by omega)
 have h2:Gs (a++(beK x 4++b)) (o+2)=x % 65536:=by
  rw [e,← List.append_assoc]
  have h3:beK x 2=beK (x % 65536) 2:=by
   rw [Zv,Zv]
   congr 1
   ·apply UInt8.toNat_inj.1;rw [UInt8.toNat_ofNat',UInt8.toNat_ofNat'];omega
   ·congr 1;apply UInt8.toNat_inj.1;rw [UInt8.toNat_ofNat',UInt8.toNat_ofNat'];omega
  rw [h3]
  exact Xy (by rw [List.length_append,ha,Az]) (by omega)
 rw [Ul,h1,h2];omega
theorem ME0 (a b:List ByteArray):Jd (a++b)=Jd b++Jd a:=by
 induction a with
 | nil=>simp [Jd]
 | cons c a ih=>simp [Jd,ih]
theorem CT0 (cs:List ByteArray):∀ {n i:Nat},i<n→∃ r,Wi cs n=Wi cs i++(beK (1024-Il (cs.take (i+1))) 2++r)
 | n+1,i,h=>by
   by_cases hi:i=n
   ·subst hi;exact ⟨[],by simp [Wi]⟩
   ·obtain ⟨r,hr⟩:=CT0 cs (show i<n by omega)
    exact ⟨r++beK (1024-Il (cs.take (n+1))) 2,by rw [Wi,hr];simp⟩
theorem Xr (k l:Nat) (cs:List ByteArray):∃ r,Oq k l cs=beK (JJ0 (AZ0 k l cs cs.length)) 4++([UInt8.ofNat k,0]++(beK cs.length 2++(beK l 4++(Wi cs cs.length++r))))∧∃ z,r=z++Jd cs:=by
 refine ⟨_, ?_,List.replicate (1012-2*cs.length-Il (cs.take cs.length)) 0,rfl⟩
 rw [Oq]
 congr 1
 rw [AZ0,TO0,List.take_length];simp only [List.append_assoc]
section
variable {k l:Nat} {cs:List ByteArray}
theorem EH1 (hu:Be cs≤1012):Ul (Oq k l cs) 0=JJ0 ((Oq k l cs).drop 4):=by
 have:=PP0 (a:=[]) (b:=AZ0 k l cs cs.length) (o:=0) rfl (NB0 (AZ0 k l cs cs.length))
 have hd:(Oq k l cs).drop 4=AZ0 k l cs cs.length:=by
  rw [Oq];exact List.drop_left' (Az 4 _)
 rw [hd];exact this
theorem DK1 (hu:Be cs≤1012) (hk:k≤5):((Oq k l cs).getD 4 0).toNat=k:=by
 obtain ⟨r,h,_⟩:=Xr k l cs;rw [h];have:=IW0 (beK (JJ0 (AZ0 k l cs cs.length)) 4) ([0]++(beK cs.length 2++(beK l 4++(Wi cs cs.length++r)))) (UInt8.ofNat k);rw [Az] at this
 rw [show ∀ t:List UInt8,[UInt8.ofNat k,0]++t=UInt8.ofNat k :: ([0]++t) from fun _=>rfl,this,UInt8.toNat_ofNat']
 omega
theorem LN0 (hu:Be cs≤1012):cs.length≤253:=by
 have:=MF0 cs
 have h2:2*cs.length≤Il cs:=by
  clear hu this
  induction cs with
  | nil=>simp
  | cons c cs ih=>simp only [Il,List.map_cons,List.sum_cons,List.length_cons] at *;omega
 omega
theorem BL1 (hu:Be cs≤1012):Gs (Oq k l cs) 6=cs.length:=by
 obtain ⟨r,h,_⟩:=Xr k l cs;have hc:=LN0 hu;rw [h,← List.append_assoc]
 exact Xy (by rw [List.length_append,Az];rfl) (by omega)
theorem DQ1 (hu:Be cs≤1012) (hl:l≤2147483647):Ul (Oq k l cs) 8=l:=by
 obtain ⟨r,h,_⟩:=Xr k l cs;rw [h,← List.append_assoc,← List.append_assoc]
 exact PP0 (by rw [List.length_append,List.length_append,Az,Az];rfl) (by omega)
theorem DP1 (hu:Be cs≤1012) {i:Nat} (hi:i<cs.length):Gs (Oq k l cs) (12+2*i)=1024-Il (cs.take (i+1)):=by
 obtain ⟨r,h,_⟩:=Xr k l cs;obtain ⟨r2,h2⟩:=CT0 cs hi;rw [h,h2,List.append_assoc (Wi cs i),List.append_assoc (beK _ 2) r2,← List.append_assoc,← List.append_assoc,← List.append_assoc,← List.append_assoc]
 exact Xy (by simp only [List.length_append,Az,Yj];rfl) (by omega)
theorem DS1 (hu:Be cs≤1012) {i:Nat} (hi:i<cs.length):∃ X Y,Oq k l cs=X++(beK cs[i].size 2++(cs[i].data.toList++Y))∧X.length=1024-Il (cs.take (i+1)):=by
 obtain ⟨r,h,z,hz⟩:=Xr k l cs
 have hs:Jd cs=Jd (cs.drop (i+1))++(beK cs[i].size 2++(cs[i].data.toList++Jd (cs.take i))):=by
  conv=>lhs;rw [← List.take_append_drop (i+1) cs]
  rw [ME0,List.take_succ_eq_append_getElem hi,FF0];simp only [List.append_assoc]
 have hlen:=Yo (k:=k) (l:=l) hu
 have b1:=CY0 hu (i+1) (by omega)
 have b2:=Us cs hi;subst hz
 refine ⟨beK (JJ0 (AZ0 k l cs cs.length)) 4++([UInt8.ofNat k,0]++(beK cs.length 2++(beK l 4++(Wi cs cs.length++(z++Jd (cs.drop (i+1))))))),Jd (cs.take i), ?_, ?_⟩
 ·rw [h,hs];simp only [List.append_assoc]
 ·rw [h,hs] at hlen
  simp only [List.length_append,Az,DX0,Array.length_toList] at hlen ⊢
  rw [show cs[i].data.size=cs[i].size from rfl] at hlen
  omega
theorem VT0 (hu:Be cs≤1012):∀ {i:Nat},i≤cs.length→Md (bsOf (Oq k l cs)) i=some (cs.take i)
 | 0,_=>rfl
 | i+1,h=>by
   have hi:i<cs.length:=by omega
   obtain ⟨X,Y,hX,hl⟩:=DS1 (k:=k) (l:=l) hu hi;have b1:=CY0 hu (i+1) h;have b2:=Us cs hi;have a1:=DP1 (k:=k) (l:=l) hu hi
   have a2:Gs (Oq k l cs) (1024-Il (cs.take (i+1)))=cs[i].size:=by
    rw [hX];exact Xy hl (by omega)
   rw [Md,VT0 hu (by omega),Option.bind_some,Ha,a1,a2,if_neg (by omega),List.take_succ_eq_append_getElem hi]
   congr 3
   have hd:(Oq k l cs).drop (1024-Il (cs.take i++[cs[i]])+2)=cs[i].data.toList++Y:=by
    rw [← List.take_succ_eq_append_getElem hi,hX,← List.append_assoc]
    exact List.drop_left' (by rw [List.length_append,hl,Az])
   have ht:1024-Il (cs.take i++[cs[i]])+2+cs[i].size-(1024-Il (cs.take i++[cs[i]])+2)=cs[i].data.toList.length:=by simp
   rw [Lib.extract_eq,Ha,hd,ht,List.take_left]
end
theorem RX0 {s:ByteArray} {n:Nat} {p:Pg} (h:EV0 s n=some p):BF1 s p:=by
 unfold EV0 at h;obtain ⟨cs,_,h2⟩:=Option.bind_eq_some_iff.1 h;exact (PZ0.1 h2).2
theorem NV0 {s:ByteArray} {p:Pg} (h:BF1 s p):EV0 s p.2.2.length=some p:=by
 obtain ⟨k,l,cs⟩:=p;obtain ⟨h1,h2,h3,h4,h5⟩:=h;simp only at h1 h2 h3 h4 h5;subst h5;unfold EV0;rw [VT0 h4 (Nat.le_refl _),List.take_length,Option.bind_some,Ha,DK1 h4 h2,DQ1 h4 h3,PZ0];exact ⟨rfl,h1,h2,h3,h4,rfl⟩
theorem Ju {s:ByteArray} {p:Pg}:Hr s=some p↔BF1 s p:=by
 constructor
 ·intro h
  unfold Hr at h
  split at h
  ·cases h
  ·exact RX0 h
 ·intro h
  have h0:=h;obtain ⟨h1,h2,h3,h4,h5⟩:=h
  have c1:Gs s.data.toList 6=p.2.2.length:=by rw [← h5,Ha];exact BL1 h4
  have c2:=LN0 h4
  have c3:Ul s.data.toList 0=JJ0 (s.data.toList.drop 4):=by rw [← h5,Ha];exact EH1 h4
  have c4:s.size=1024:=by rw [← h5,Bv];exact Yo h4
  unfold Hr
  rw [if_neg (by rintro (h | h | h);exact h c4;exact h c3;omega),c1]
  exact NV0 h0
structure Pl where
 L:Lg
 most:Nat
 ring:List Pf
 pages:Nat
 free:Nat
 turned:List Nat
 hits:Int
 misses:Int
 spills:Int
def Oi (x:Nat) (F:List Pf):List Pf:=F.filter (fun f=>f.n != x)
def NU0 (x:Int) (F:List Pf):Option Pf:=F.find? (fun f=>(f.n:Int) == x)
def idle (F:List Pf):Option Pf:=F.find? (fun f=>f.pins == 0)
def Vj (x:Nat) (T:List Nat):List Nat:=if x∈T then T else x :: T
def Gu:ByteArray:=Dc 3 0 []
def Pl.Ht (P:Pl) (f:Pf):Pl×Int :=
 if f.dirty then
  if P.L.Dq f.n f.s=0 then ({ P with L:=P.L.append f.n f.s,spills:=wrap64 (P.spills+1),ring:=Oi f.n P.ring },0)
  else ({ P with L:=P.L.append f.n f.s },P.L.Dq f.n f.s)
 else ({ P with ring:=Oi f.n P.ring },0)
def Pl.room (P:Pl):Pl×Int :=
 if P.ring.length<P.most then (P,0) else match idle P.ring with
  | none=>(P,6)
  | some f=>P.Ht f
def Pl.fetch (P:Pl) (x:Nat):Pl×Int :=
 if P.L.rw.Ej x=0 then ({ P with misses:=wrap64 (P.misses+1),ring:=P.ring++[⟨x,P.L.rw.Gy x,0,false⟩] },0) else (P,P.L.rw.Ej x)
def Pl.get (P:Pl) (x:Int):Pl×Int :=
 if 0≤x∧x<(P.pages:Int) then
  match NU0 x P.ring with
  | some f=>({ P with hits:=wrap64 (P.hits+1),ring:=Oi f.n P.ring++[f] },0)
  | none=>if P.room.2=0 then P.room.1.fetch x.toNat else P.room
 else (P,7)
def Pl.Pv (P:Pl):Pf:=P.ring.getLastD pf0
def Pl.setLast (P:Pl) (f:Pf):Pl:={ P with ring:=P.ring.dropLast++[f] }
def Pl.put (P:Pl) (x:Int) (s:ByteArray):Pl×Int :=
 if (P.get x).2=0 then ({ (P.get x).1.setLast { (P.get x).1.Pv with s:=s,dirty:=true } with turned:=Vj x.toNat (P.get x).1.turned },0) else P.get x
def Pl.write (P:Pl) (x:Int) (s:ByteArray):Pl×Int:=if x=0∨s.size≠1024 then (P,1) else P.put x s
def Pl.Cf (P:Pl) (n:Nat):Pl×Int :=
 if (P.get 0).2=0 then
  match Hr (P.get 0).1.Pv.s with
  | none=>((P.get 0).1,4)
  | some pg =>
    if ((P.get 0).1.put 0 (Dc 4 n pg.2.2)).2=0 then ({ ((P.get 0).1.put 0 (Dc 4 n pg.2.2)).1 with free:=n },0)
    else (P.get 0).1.put 0 (Dc 4 n pg.2.2)
 else P.get 0
def Pl.grow (P:Pl):Pl×Int :=
 if P.room.2=0 then ({ P.room.1 with pages:=P.room.1.pages+1,ring:=P.room.1.ring++[⟨P.room.1.pages,Gu,0,true⟩],turned:=Vj P.room.1.pages P.room.1.turned },0) else P.room
def Pl.reuse (P:Pl):Pl×Int :=
 if (P.get P.free).2=0 then
  match Hr (P.get P.free).1.Pv.s with
  | none=>((P.get P.free).1,4)
  | some pg =>
    if ((P.get P.free).1.Cf pg.2.1).2=0 then ((P.get P.free).1.Cf pg.2.1).1.put P.free Gu
    else (P.get P.free).1.Cf pg.2.1
 else P.get P.free
def Pl.alloc (P:Pl):Pl×Int:=if P.free=0 then (if 67108864<(P.pages+1)*1024 then (P,8) else P.grow) else P.reuse
def Pl.Ah (P:Pl):Nat:=if P.free=0 then P.pages else P.free
def Pl.IR0 (P:Pl) (x:Int):Pl×Int :=
 if x=0 then (P,1)
 else if (P.put x (Dc 3 P.free [])).2=0 then (P.put x (Dc 3 P.free [])).1.Cf x.toNat
 else P.put x (Dc 3 P.free [])
open Go.BigFrame Go.Maps
def Tm:Value→Option (DataW Unit×List MemPlace)
 | .pointer none=>some (.lit (.int .i64 (-1)),[])
 | .pointer (some ⟨b,0,none⟩)=>some (.lit (.int .i64 (b:Int)),[])
 | _=>none
def EY1:Option Nat→Value
 | none=>.pointer none
 | some b=>.pointer (some ⟨b,0,none⟩)
theorem FU0 {v:Value} {x:Int} {ps:List MemPlace} (h:Tm v=some (.lit (.int .i64 x),ps)):(x = -1∧v = .pointer none)∨∃ b:Nat,x=b∧v = .pointer (some ⟨b,0,none⟩):=by
 unfold Tm at h
 split at h
 ·injection h with h;injection h with h1 h2;injection h1 with h3;injection h3 with h4 h5;exact .inl ⟨h5.symm,rfl⟩
 ·rename_i b
  injection h with h;injection h with h1 h2;injection h1 with h3;injection h3 with h4 h5;exact .inr ⟨b,h5.symm,rfl⟩
 ·cases h
def Says (D:DataW Unit) (g:Int→Option Nat):Prop:=∀ x:Int,(g x=none→Maps.has D (.int .i64 x)=false)∧∀ v,g x=some v→∀ z,D.atKey (.int .i64 x) z = .lit (.int .i64 (v:Int))
theorem Says.has {D:DataW Unit} {g:Int→Option Nat} (h:Says D g) (x:Int):Maps.has D (.int .i64 x)=(g x).isSome:=by
 cases hg:g x with
 | none=>rw [(h x).1 hg];rfl
 | some v=>rw [has_true_of_atKey ((h x).2 v hg)];rfl
theorem Says.put {D:DataW Unit} {g:Int→Option Nat} (hm:Maps.IsMap D) (h:Says D g) (k:Int) (v:Nat):Says (D.put (.int .i64 k) (.lit (.int .i64 (v:Int)))) (fun y=>if y=k then some v else g y):=fun x=>by
 dsimp only
 by_cases hx:x=k
 ·subst hx
  rw [if_pos rfl]
  exact ⟨fun h=>(by cases h),fun t' h z=>by cases h;exact atKey_put_same (k:=.int .i64 x) hm trivial _ _⟩
 ·have hne:(Lit.int .i64 x) ≠ .int .i64 k:=fun e=>by cases e;exact hx rfl
  rw [if_neg hx]
  refine ⟨fun h1=>?_,fun t' h1 z=>?_⟩
  ·rw [has_put_other hne];exact (h x).1 h1
  ·rw [atKey_put_other hne];exact (h x).2 t' h1 z
theorem Says.del {D:DataW Unit} {g:Int→Option Nat} (h:Says D g) (k:Int):Says (D.del (.int .i64 k)) (fun y=>if y=k then none else g y):=fun x=>by
 dsimp only
 by_cases hx:x=k
 ·subst hx
  rw [if_pos rfl]
  exact ⟨fun _=>has_del_same,fun t' h=>by cases h⟩
 ·have hne:(Lit.int .i64 x) ≠ .int .i64 k:=fun e=>by cases e;exact hx rfl
  rw [if_neg hx]
  refine ⟨fun h1=>?_,fun t' h1 z=>?_⟩
  ·rw [has_del_other hne];exact (h x).1 h1
  ·rw [atKey_del_other hne];exact (h x).2 t' h1 z
theorem KG0 {R:Value→Option (DataW Unit×List MemPlace)} {w:World} {b n:Nat} {D:DataW Unit} (h:w.ownsMap Tryz.prog 3 R b n D):w.ownsMap Tryz.prog 3 R b (Maps.size D) D:=by
 obtain ⟨es,cl,hb,F,hs,rfl⟩:=h
 exact ⟨es,cl,hb,F,by simp [Maps.size,length_sorted],rfl⟩
def GM (R:Value→Option (DataW Unit×List MemPlace)) (w:World) (b:Nat) (g:Int→Option Nat) (c:Nat):Prop:=∃ D:DataW Unit,w.ownsMap Tryz.prog 3 R b c D∧Says D g∧Maps.size D=c
section
variable {R:Value→Option (DataW Unit×List MemPlace)} {w w':World} {b c:Nat} {g g':Int→Option Nat}
theorem GM.lt (h:GM R w b g c):b<w.heap.size:=by
 obtain ⟨D,h1,_⟩:=h;exact h1.lt
theorem GM.block (h:GM R w b g c) (hb:w'.heap[b]? = w.heap[b]?):GM R w' b g c:=by
 obtain ⟨D,⟨es,cl,h1,h2⟩,h3⟩:=h;exact ⟨D,⟨es,cl,hb.trans h1,h2⟩,h3⟩
theorem GM.below (h:GM R w b g c) (hb:Below w.heap.size w w'):GM R w' b g c:=h.block (hb.block b h.lt)
theorem GM.turn {x y:List (Option Nat)} (h:GM R w b g c) (ht:Turn x y w w') (hg:some b∉x):GM R w' b g c:=h.block (ht.block b h.lt hg)
theorem GM.far (h:GM R w b g c) {p:Addr} (hp:b≠p.block) (u:Value):GM R (w.setCell p u) b g c:=h.block (Below.heap_setCell w p u b hp)
theorem GM.made (R:Value→Option (DataW Unit×List MemPlace)) (w:World):GM R (w.alloc (.map #[] 0)) w.heap.size (fun _=>none) 0:=⟨_,World.ownsMap_made _ _ _ _,fun x=>⟨fun _=>rfl,fun t h=>by cases h⟩,rfl⟩
theorem GM.congr (h:GM R w b g c) (e:∀ x,g x=g' x):GM R w b g' c:=by
 have:g=g':=funext e
 rwa [← this]
theorem GM.Fp (h:GM R w b g c) {t:TypeId} {cs:Array Value} (hh:Has w b t cs):False:=by
 obtain ⟨D,⟨es,cl,h1,_⟩,_⟩:=h;unfold Has at hh;rw [hh] at h1;cases h1
theorem GM.put {t e:TypeId} (ht : Tryz.prog.underlying t=some (.map 3 e)) (h:GM R w b g c) (hc:c≤100000000) (k:Int) (hk:(Lit.int .i64 k).wf=true) {val:Value} {v:Nat} {ps:List MemPlace} (hv:R val=some (.lit (.int .i64 (v:Int)),ps)) :
 ∃ w',(Instr.mapUpdate t (.map (some b)) (.int .i64 k) val).run Tryz.prog w = .ok () w'∧GM R w' b (fun y=>if y=k then some v else g y) (if (g k).isSome then c else c+1)∧w.grownBy w' (some b):=by
 obtain ⟨D,h1,h2,h3⟩:=h
 obtain ⟨w',hr,h4,h5⟩:=h1.update Sj ht (by unfold maxLen;omega) (keyOf_int_mk Tryz.underlying3 hk) hv
 have hs:=size_put (k:=.int .i64 k) (h1.tidy Sj) (.lit (.int .i64 (v:Int)));rw [h2.has,h3] at hs;have ht:=KG0 h4;rw [hs] at ht;exact ⟨w',hr,⟨_,ht,h2.put h1.isMap k v,hs⟩,h5⟩
theorem GM.del {t e:TypeId} (ht : Tryz.prog.underlying t=some (.map 3 e)) (h:GM R w b g c) (k:Int) (hk:(Lit.int .i64 k).wf=true) (ty:TypeId) :
 ∃ w',(Builtin.delete_ #[t,3] ty #[.map (some b),.int .i64 k]).run Tryz.prog w = .ok (.tuple #[]) w'∧GM R w' b (fun y=>if y=k then none else g y) (if (g k).isSome then c-1 else c)∧w.grownBy w' (some b):=by
 obtain ⟨D,h1,h2,h3⟩:=h;obtain ⟨w',hr,h4,h5⟩:=h1.drop Sj ht (keyOf_int_mk Tryz.underlying3 hk) ty;have hs:=size_del (k:=.int .i64 k) (h1.tidy Sj);rw [h2.has,h3] at hs
 have hs2:Maps.size (D.del (.int .i64 k))=if (g k).isSome then c-1 else c:=by
  cases hg:(g k).isSome <;> rw [hg] at hs <;> simp at hs ⊢ <;> omega
 have ht:=KG0 h4;rw [hs2] at ht;exact ⟨w',hr,⟨_,ht,h2.del k,hs2⟩,h5.grown⟩
end
section
variable {w:World} {ops:Array Oper} {rest:List Oper} {o:Oper} {a:Act} {Q:Exit→Act→World→Prop}
theorem EU1 (w:World):(zeroValue 102).run Tryz.prog w = .ok (.pointer none) w:=by kernel_rfl
theorem Ii (w:World) {ops:Array Oper} {rest:List Oper} {o:Oper} {a:Act} {Q:Exit→Act→World→Prop} (hg:o.guard=none) (m x:Operand) (hop:o.op=Op.lookup 103 m x false) (b c:Nat) (g:Int→Option Nat)
 (hm:a.eval m = .map (some b)) (h:GM Tm w b g c) (k:Int) (hx:a.eval x = .int .i64 k) (hk:(Lit.int .i64 k).wf=true)
 (hK:wpList Tryz.prog ops Q rest (a.put o.dst (EY1 (g k))) w):wpList Tryz.prog ops Q (o :: rest) a w:=by
 obtain ⟨D,h1,h2,h3⟩:=h
 refine wpList_plain hg fun K' hK'=>?_
 obtain ⟨v,ps,hrun,hv⟩:=h1.lookup Sj Tryz.underlying103 (EU1 w) (zd:=.lit (.int .i64 (-1))) (zp:=[]) rfl (keyOf_int_mk Tryz.underlying3 hk)
 have hvv:v=EY1 (g k):=by
  cases hgk:g k with
  | none =>
    rw [atKey_of_not_has ((h2 k).1 hgk)] at hv
    rcases FU0 hv with ⟨_,e⟩ | ⟨y,e,_⟩
    ·exact e
    ·omega
  | some y =>
    rw [(h2 k).2 y hgk] at hv
    rcases FU0 hv with ⟨e,_⟩ | ⟨z,e,e2⟩
    ·omega
    ·have:z=y:=by omega
     rw [e2,this];rfl
 subst hvv;unfold Oper.wp;simp [execOp,hop,hm,hx,hrun,Result.andThen];exact hK' _ _ hK
theorem Xe {R:Value→Option (DataW Unit×List MemPlace)} (w:World) {ops:Array Oper} {rest:List Oper} {o:Oper} {a:Act} {Q:Exit→Act→World→Prop} (hg:o.guard=none) (m x v:Operand) (t e:TypeId) (hop:o.op=Op.mapUpdate t m x v)
 (ht : Tryz.prog.underlying t=some (.map 3 e)) (b c:Nat) (g:Int→Option Nat) (hm:a.eval m = .map (some b)) (h:GM R w b g c) (hc:c≤100000000) (k:Int) (hx:a.eval x = .int .i64 k) (hk:(Lit.int .i64 k).wf=true)
 (val:Value) (y:Nat) (hval:a.eval v=val) (ps:List MemPlace) (hv:R val=some (.lit (.int .i64 (y:Int)),ps))
 (hK:∀ w',GM R w' b (fun z=>if z=k then some y else g z) (if (g k).isSome then c else c+1)→w.grownBy w' (some b)→wpList Tryz.prog ops Q rest (a.put o.dst undef) w'):wpList Tryz.prog ops Q (o :: rest) a w:=by
 refine wpList_plain hg fun K' hK'=>?_
 obtain ⟨w',hrun,h1,h2⟩:=h.put ht hc k hk hv;unfold Oper.wp;simp [execOp,hop,hm,hx,hval,hrun,Result.andThen];exact hK' _ _ (hK w' h1 h2)
end
theorem GN0 (v:Nat) (hv:v≤4611686018427387904):plainElem (H:=Unit) Tryz.prog 3 (.int .i64 (v:Int))=some (.lit (.int .i64 (v:Int)),[]):=plainElem_int Tryz.underlying3 (wfI (by omega) (by omega))
end Go.Proofs.YtjihboddejaelaaGreat
