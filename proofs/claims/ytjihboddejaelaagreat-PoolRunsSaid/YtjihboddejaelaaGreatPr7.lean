/-
  The ring of a pool's frames in memory: taken out, put at its end.
-/
import Derived.Test.YtjihboddejaelaaGreatPr1
import Derived.Test.YtjihboddejaelaaGreatProg
import Derived.Test.YtjihboddejaelaaGreatRows
import Derived.WalkSpells
import Derived.WalkLawsBesides
import Derived.BigQuiet
import Derived.Outline
import Derived.LoopTactic
import Derived.Deep.DeepCutAuto
import Derived.Deep.AppendLies
import Derived.Laws.BitsAllLaws
import Derived.Orders
import Derived.Tactics
import Derived.Lib.BufferWrite
import Derived.Lib.SlBuf
import Derived.IntWalk
import Derived.Laws.MakeOwn
set_option linter.unusedVariables false
set_option linter.unusedSimpArgs false
namespace Go.Proofs.YtjihboddejaelaaGreat
open Go.RowKit
structure Pf where
 n:Nat
 s:ByteArray
 pins:Nat
 dirty:Bool
def pf0:Pf:=⟨0,⟨#[]⟩,0,false⟩
abbrev ptrB (b:Nat):Value:=.pointer (some ⟨b,0,none⟩)
def frC (f:Pf) (p q:Nat):Array Value:=#[.int .i64 f.n,.string f.s,.int .i64 f.pins,.bool f.dirty,ptrB p,ptrB q]
def seg (w:World):Nat→List Nat→List Pf→Nat→Prop
 | _,[],F,_=>F=[]
 | p,a :: A,F,q=>∃ f r,F=f :: r∧Has w a 166 (frC f p (A.headD q))∧seg w a A r q
section
variable {w w':World}
theorem seg_len:∀ {p:Nat} {A:List Nat} {F:List Pf} {q:Nat},seg w p A F q→A.length=F.length
 | _,[],_,_,h=>by rw [show _=[] from h];rfl
 | p,a :: A,_,q,h=>by
   obtain ⟨f,r,rfl,_,h2⟩:=h
   simp [seg_len h2]
theorem seg_lt:∀ {p:Nat} {A:List Nat} {F:List Pf} {q:Nat},seg w p A F q→∀ x∈A,x<w.heap.size
 | _,[],_,_,_,_,hx=>by cases hx
 | p,a :: A,_,q,h,x,hx=>by
   obtain ⟨f,r,rfl,h1,h2⟩:=h
   rcases List.mem_cons.1 hx with rfl | hx
   ·exact h1.lt
   ·exact seg_lt h2 x hx
theorem seg_kept:∀ {p:Nat} {A:List Nat} {F:List Pf} {q:Nat},(∀ x∈A,w'.heap[x]? = w.heap[x]?)→seg w p A F q→seg w' p A F q
 | _,[],_,_,_,h=>h
 | p,a :: A,_,q,hb,h=>by
   obtain ⟨f,r,rfl,h1,h2⟩:=h
   exact ⟨f,r,rfl,(hb a (List.mem_cons_self ..)).trans h1,seg_kept (fun x hx=>hb x (List.mem_cons_of_mem _ hx)) h2⟩
theorem seg_far {p:Nat} {A:List Nat} {F:List Pf} {q:Nat} (h:seg w p A F q) {y:Addr} (hy:y.block∉A) (u:Value):seg (w.setCell y u) p A F q :=
 seg_kept (fun x hx=>Below.heap_setCell _ _ _ _ (fun e=>hy (e ▸ hx))) h
theorem seg_next:∀ {p:Nat} {A:List Nat} {F:List Pf} {q z:Nat} (q':Nat),seg w p (A++[z]) F q→z∉A→seg (w.setCell ⟨z,5,none⟩ (ptrB q')) p (A++[z]) F q'
 | p,[],_,q,z,q',h,_=>by
   obtain ⟨f,r,rfl,h1,h2⟩:=h
   exact ⟨f,r,rfl,h1.set 5 (ptrB q'),h2⟩
 | p,a :: A,_,q,z,q',h,hz=>by
   obtain ⟨f,r,rfl,h1,h2⟩:=h
   have hza:¬ a=z:=fun e=>hz (e ▸ List.mem_cons_self ..)
   refine ⟨f,r,rfl, ?_,seg_next q' h2 (fun hm=>hz (List.mem_cons_of_mem _ hm))⟩
   have e:(A++[z]).headD q'=(A++[z]).headD q:=by cases A <;> rfl
   show Has _ a _ (frC f p ((A++[z]).headD q'))
   rw [e]
   exact h1.far hza _
theorem seg_prev {p:Nat} {b:Nat} {A:List Nat} {F:List Pf} {q:Nat} (p':Nat) (h:seg w p (b :: A) F q) (hb:b∉A):seg (w.setCell ⟨b,4,none⟩ (ptrB p')) p' (b :: A) F q:=by
 obtain ⟨f,r,rfl,h1,h2⟩:=h
 exact ⟨f,r,rfl,h1.set 4 (ptrB p'),seg_far h2 hb _⟩
theorem seg_split:∀ {p:Nat} {A B:List Nat} {F:List Pf} {q:Nat},seg w p (A++B) F q→∃ F1 F2,F=F1++F2∧seg w p A F1 (B.headD q)∧seg w (A.getLastD p) B F2 q
 | p,[],B,F,q,h=>⟨[],F,rfl,rfl,h⟩
 | p,a :: A,B,_,q,h=>by
   rw [List.cons_append] at h
   obtain ⟨f,r,rfl,h1,h2⟩:=h
   obtain ⟨F1,F2,rfl,h3,h4⟩:=seg_split h2
   have e:(A++B).headD q=A.headD (B.headD q):=by cases A <;> rfl
   rw [e] at h1
   refine ⟨f :: F1,F2,rfl,⟨f,F1,rfl,h1,h3⟩, ?_⟩
   have e2:(a :: A).getLastD p=A.getLastD a:=by cases A <;> rfl
   rw [e2];exact h4
theorem seg_join:∀ {p:Nat} {A B:List Nat} {F1 F2:List Pf} {q:Nat},seg w p A F1 (B.headD q)→seg w (A.getLastD p) B F2 q→seg w p (A++B) (F1++F2) q
 | p,[],B,F1,F2,q,h1,h2=>by rw [show F1=[] from h1];exact h2
 | p,a :: A,B,_,F2,q,h1,h2=>by
   obtain ⟨f,r,rfl,h3,h4⟩:=h1
   have e:(A++B).headD q=A.headD (B.headD q):=by cases A <;> rfl
   have e2:(a :: A).getLastD p=A.getLastD a:=by cases A <;> rfl
   rw [e2] at h2
   rw [List.cons_append]
   exact ⟨f,r++F2,rfl,by rw [e];exact h3,seg_join h4 h2⟩
theorem seg_put {p:Nat} {A1 A2:List Nat} {a:Nat} {F1 F2:List Pf} {f f':Pf} {q:Nat} (h:seg w p (A1++a :: A2) (F1++f :: F2) q) (hl:A1.length=F1.length) (h1:a∉A1) (h2:a∉A2)
 (hb:∀ x,x≠a→w'.heap[x]? = w.heap[x]?) (hn:∀ x y,Has w a 166 (frC f x y)→Has w' a 166 (frC f' x y)):seg w' p (A1++a :: A2) (F1++f' :: F2) q:=by
 obtain ⟨G1,G2,e,h3,h4⟩:=seg_split h
 have hl2:=seg_len h3
 obtain ⟨e1,e2⟩:=List.append_inj e (by omega)
 subst e1;subst e2
 obtain ⟨f2,r,e3,h5,h6⟩:=h4
 injection e3 with e4 e5
 subst e4;subst e5
 exact seg_join (seg_kept (fun x hx=>hb x (fun e=>h1 (e ▸ hx))) h3) ⟨f',F2,rfl,hn _ _ h5,seg_kept (fun x hx=>hb x (fun e=>h2 (e ▸ hx))) h6⟩
end
structure Ring (w:World) (e:Nat) (A:List Nat) (F:List Pf):Prop where
 nodup:(e :: A).Nodup
 ends:Has w e 166 (frC pf0 (A.getLastD e) (A.headD e))
 row:seg w e A F e
section
variable {w w':World} {e:Nat} {A A1 A2:List Nat} {a:Nat} {F F1 F2:List Pf} {f:Pf}
theorem Ring.len (h:Ring w e A F):A.length=F.length:=seg_len h.row
theorem Ring.lt (h:Ring w e A F):∀ x∈e :: A,x<w.heap.size:=fun x hx=>by
 rcases List.mem_cons.1 hx with rfl | hx
 ·exact h.ends.lt
 ·exact seg_lt h.row x hx
theorem Ring.kept (h:Ring w e A F) (hb:∀ x∈e :: A,w'.heap[x]? = w.heap[x]?):Ring w' e A F :=
 ⟨h.nodup,(hb e (List.mem_cons_self ..)).trans h.ends,seg_kept (fun x hx=>hb x (List.mem_cons_of_mem _ hx)) h.row⟩
theorem Ring.at (h:Ring w e (A1++a :: A2) (F1++f :: F2)) (hl:A1.length=F1.length):Has w a 166 (frC f (A1.getLastD e) (A2.headD e)):=by
 obtain ⟨G1,G2,eq,h3,h4⟩:=seg_split h.row
 have hl2:=seg_len h3
 obtain ⟨e1,e2⟩:=List.append_inj eq (by omega)
 subst e1;subst e2
 obtain ⟨f2,r,e3,h5,h6⟩:=h4
 injection e3 with e4 e5
 subst e4;subst e5
 exact h5
theorem getLastD_snoc (A:List Nat) (z p:Nat):(A++[z]).getLastD p=z:=by
 induction A generalizing p with
 | nil=>rfl
 | cons a A ih=>rw [List.cons_append];show List.getLastD (a :: (A++[z])) p=z;rw [List.getLastD_cons];exact ih a
theorem getLastD_app (A B:List Nat) (p:Nat):(A++B).getLastD p=B.getLastD (A.getLastD p):=by
 induction A generalizing p with
 | nil=>rfl
 | cons a A ih=>rw [List.cons_append,List.getLastD_cons,List.getLastD_cons];exact ih a
theorem headD_app (A B:List Nat) (q:Nat):(A++B).headD q=A.headD (B.headD q):=by cases A <;> rfl
theorem snoc_of (A:List Nat):A=[]∨∃ B z,A=B++[z]:=by
 rcases List.eq_nil_or_concat A with h | ⟨B,z,h⟩
 ·exact .inl h
 ·exact .inr ⟨B,z,by rw [h,List.concat_eq_append]⟩
theorem Ring.leave (h:Ring w e (A1++a :: A2) (F1++f :: F2)) (hl:A1.length=F1.length) :
 Ring ((w.setCell ⟨A1.getLastD e,5,none⟩ (ptrB (A2.headD e))).setCell ⟨A2.headD e,4,none⟩ (ptrB (A1.getLastD e))) e (A1++A2) (F1++F2):=by
 obtain ⟨G1,G2,eq,h3,h4⟩:=seg_split h.row
 have hl2:=seg_len h3
 obtain ⟨e1,e2⟩:=List.append_inj eq (by omega)
 subst e1;subst e2
 obtain ⟨f2,r,e3,h5,h6⟩:=h4
 injection e3 with e4 e5
 subst e4;subst e5
 have hnd:=h.nodup
 rw [List.nodup_cons,List.nodup_append] at hnd
 obtain ⟨he,n1,n2,n3⟩:=hnd
 rw [List.nodup_cons] at n2
 have heA1:e∉A1:=fun hm=>he (List.mem_append_left _ hm)
 have heA2:e∉A2:=fun hm=>he (List.mem_append_right _ (List.mem_cons_of_mem _ hm))
 have hends:=h.ends
 rw [getLastD_app,List.getLastD_cons,headD_app] at hends
 have hnd2:(e :: (A1++A2)).Nodup:=by
  rw [List.nodup_cons,List.nodup_append]
  exact ⟨fun hm=>(List.mem_append.1 hm).elim heA1 heA2,n1,n2.2,fun x hx y hy=>n3 x hx y (List.mem_cons_of_mem _ hy)⟩
 rcases snoc_of A1 with rfl | ⟨B1,z,rfl⟩
 ·rw [show F1=[] from h3] at *
  rcases A2 with _ | ⟨b,A2⟩
  ·rw [show F2=[] from h6] at *
   exact ⟨hnd2,(hends.set 5 (ptrB e)).set 4 (ptrB e),rfl⟩
  ·have hb:¬ e=b:=fun x=>heA2 (x ▸ List.mem_cons_self ..)
   refine ⟨hnd2, ?_, ?_⟩
   ·have:=(hends.set 5 (ptrB b)).far (p:=⟨b,4,none⟩) hb (ptrB e)
    rw [List.nil_append,List.getLastD_cons]
    rw [List.getLastD_cons] at this
    exact this
   ·exact seg_prev e (seg_far h6 (y:=⟨e,5,none⟩) heA2 (ptrB b)) (List.nodup_cons.1 n2.2).1
 ·rw [getLastD_snoc] at *
  have hz:¬ e=z:=fun x=>heA1 (x ▸ List.mem_append_right _ (List.mem_singleton.2 rfl))
  have hzB:z∉B1:=fun hm=>by
   rw [List.nodup_append] at n1
   exact n1.2.2 z hm z (List.mem_singleton.2 rfl) rfl
  have hzA2:z∉A2:=fun hm=>n3 z (List.mem_append_right _ (List.mem_singleton.2 rfl)) z (List.mem_cons_of_mem _ hm) rfl
  rcases A2 with _ | ⟨b,A2⟩
  ·rw [show F2=[] from h6] at *
   refine ⟨hnd2, ?_, ?_⟩
   ·have:=(hends.far (p:=⟨z,5,none⟩) hz (ptrB e)).set 4 (ptrB z)
    rw [List.append_nil,getLastD_snoc]
    rw [headD_app] at this ⊢
    exact this
   ·rw [List.append_nil,List.append_nil]
    exact seg_far (seg_next e h3 hzB) (y:=⟨e,4,none⟩) heA1 _
  ·have hb:¬ e=b:=fun x=>heA2 (x ▸ List.mem_cons_self ..)
   have hbB:b∉B1++[z]:=fun hm=>n3 b hm b (List.mem_cons_of_mem _ (List.mem_cons_self ..)) rfl
   refine ⟨hnd2, ?_, ?_⟩
   ·have:=(hends.far (p:=⟨z,5,none⟩) hz (ptrB b)).far (p:=⟨b,4,none⟩) hb (ptrB z)
    rw [getLastD_app,getLastD_snoc,List.getLastD_cons,headD_app]
    rw [List.getLastD_cons,headD_app] at this
    have e6:(B1.headD ([z].headD a))=B1.headD ([z].headD ((b :: A2).headD e)):=by cases B1 <;> rfl
    rw [headD_app,← e6]
    exact this
   ·refine seg_join ?_ ?_
    ·exact seg_far (seg_next b h3 hzB) (y:=⟨b,4,none⟩) hbB _
    ·rw [getLastD_snoc]
     exact seg_prev z (seg_far h6 (y:=⟨z,5,none⟩) hzA2 (ptrB b)) (List.nodup_cons.1 n2.2).1
theorem Ring.lastV (h:Ring w e A F) {va vb:Value} (ha:Has w a 166 #[.int .i64 f.n,.string f.s,.int .i64 f.pins,.bool f.dirty,va,vb]) (hea:a∉e :: A) :
 Ring ((((w.setCell ⟨a,4,none⟩ (ptrB (A.getLastD e))).setCell ⟨a,5,none⟩ (ptrB e)).setCell ⟨A.getLastD e,5,none⟩ (ptrB a)).setCell ⟨e,4,none⟩ (ptrB a)) e (A++[a]) (F++[f]):=by
 have hae:¬ e=a:=fun x=>hea (x ▸ List.mem_cons_self ..)
 have haA:a∉A:=fun hm=>hea (List.mem_cons_of_mem _ hm)
 obtain ⟨heA,hnA⟩:=List.nodup_cons.1 h.nodup
 have hnd:(e :: (A++[a])).Nodup:=by
  rw [List.nodup_cons,List.nodup_append]
  refine ⟨fun hm=>(List.mem_append.1 hm).elim heA (fun h2=>hae (List.mem_singleton.1 h2)),hnA,by simp,fun u hu v hv=>?_⟩
  rw [List.mem_singleton.1 hv]
  exact fun x=>haA (x ▸ hu)
 have h1:=(ha.set 4 (ptrB (A.getLastD e))).set 5 (ptrB e)
 have h2:=(h.ends.far (p:=⟨a,4,none⟩) hae (ptrB (A.getLastD e))).far (p:=⟨a,5,none⟩) hae (ptrB e)
 have h3:=seg_far (seg_far h.row (y:=⟨a,4,none⟩) haA (ptrB (A.getLastD e))) (y:=⟨a,5,none⟩) haA (ptrB e)
 rcases snoc_of A with rfl | ⟨B,z,rfl⟩
 ·rw [show F=[] from h.row]
  exact ⟨hnd,(h2.set 5 (ptrB a)).set 4 (ptrB a),⟨f,[],rfl,(h1.far (p:=⟨e,5,none⟩) (Ne.symm hae) (ptrB a)).far (p:=⟨e,4,none⟩) (Ne.symm hae) (ptrB a),rfl⟩⟩
 ·rw [getLastD_snoc] at *
  have hza:¬ a=z:=fun x=>haA (x ▸ List.mem_append_right _ (List.mem_singleton.2 rfl))
  have hze:¬ e=z:=fun x=>heA (x ▸ List.mem_append_right _ (List.mem_singleton.2 rfl))
  have hzB:z∉B:=fun hm=>by
   rw [List.nodup_append] at hnA
   exact hnA.2.2 z hm z (List.mem_singleton.2 rfl) rfl
  refine ⟨hnd, ?_, ?_⟩
  ·have:=(h2.far (p:=⟨z,5,none⟩) hze (ptrB a)).set 4 (ptrB a)
   rw [getLastD_snoc,headD_app,headD_app]
   rw [headD_app] at this
   exact this
  ·refine seg_join (seg_far (seg_next a h3 hzB) (y:=⟨e,4,none⟩) heA _) ?_
   rw [getLastD_snoc]
   exact ⟨f,[],rfl,(h1.far (p:=⟨z,5,none⟩) hza (ptrB a)).far (p:=⟨e,4,none⟩) (Ne.symm hae) (ptrB a),rfl⟩
end
end Go.Proofs.YtjihboddejaelaaGreat
namespace Go.Proofs.YtjihboddejaelaaGreat
def crcBit (c:Nat):Nat:=if c % 2=1 then (c / 2) ^^^ 3988292384 else c / 2
def crcBits:Nat→Nat→Nat
 | 0,c=>c
 | k+1,c=>crcBits k (crcBit c)
theorem crcBits_succ:∀ (k c:Nat),crcBits (k+1) c=crcBit (crcBits k c)
 | 0,_=>rfl
 | k+1,c=>by rw [crcBits,crcBits_succ k (crcBit c)];rfl
def crcByte (c b:Nat):Nat:=crcBits 8 (c ^^^ b)
def crcGo (c:Nat) (l:List UInt8):Nat:=l.foldl (fun c b=>crcByte c b.toNat) c
def crcN (l:List UInt8):Nat:=4294967295-crcGo 4294967295 l
theorem crcBit_lt {c:Nat} (h:c<4294967296):crcBit c<4294967296:=by
 unfold crcBit
 split
 ·exact Nat.xor_lt_two_pow (n:=32) (by omega) (by omega)
 ·omega
theorem crcBits_lt:∀ (k:Nat) {c:Nat},c<4294967296→crcBits k c<4294967296
 | 0,_,h=>h
 | k+1,_,h=>crcBits_lt k (crcBit_lt h)
theorem crcByte_lt {c b:Nat} (h:c<4294967296) (hb:b<256):crcByte c b<4294967296:=crcBits_lt 8 (Nat.xor_lt_two_pow (n:=32) (by omega) (by omega))
theorem crcGo_lt:∀ (l:List UInt8) {c:Nat},c<4294967296→crcGo c l<4294967296
 | [],_,h=>h
 | b :: l,_,h=>crcGo_lt l (crcByte_lt h (by have:=b.toNat_lt;omega))
theorem crcGo_snoc (c:Nat) (l:List UInt8) (b:UInt8):crcGo c (l++[b])=crcByte (crcGo c l) b.toNat:=by simp [crcGo]
theorem crcN_lt (l:List UInt8):crcN l<4294967296:=by unfold crcN;omega
theorem xor_lt32 {c b:Nat} (h:c<4294967296) (hb:b<256):c ^^^ b<4294967296:=Nat.xor_lt_two_pow (n:=32) (by omega) (by omega)
end Go.Proofs.YtjihboddejaelaaGreat
namespace Go.Proofs.YtjihboddejaelaaGreat
open Go.RowKit
open Go.BigFrame
theorem and_one {c:Nat} (h:c<4294967296):bits .and .u32 (c:Int) 1=((c % 2:Nat):Int):=by
 have:=u32_and_nat c 1 h (by omega)
 rw [nat_mask1] at this
 exact this
theorem xor_poly {c:Nat} (h:c<4294967296):bits .xor .u32 (c:Int) 3988292384=((c ^^^ 3988292384:Nat):Int):=u32_xor_nat c 3988292384 h (by omega)
theorem xor_byte {c b:Nat} (h:c<4294967296) (hb:b<256):bits .xor .u32 (c:Int) ((b:Int) % 4294967296)=((c ^^^ b:Nat):Int):=by
 rw [show (b:Int) % 4294967296=(b:Int) by omega];exact u32_xor_nat c b h (by omega)
theorem crc_odd {e:Nat} (he:e<4294967296) (ho:e % 2=1):bits .xor .u32 ((e:Int) / 2) 3988292384=((crcBit e:Nat):Int):=by
 rw [show ((e:Int) / 2)=((e / 2:Nat):Int) by omega,xor_poly (by omega),crcBit,if_pos ho]
theorem crc_even {e:Nat} (ho:¬ e % 2=1):((e:Int) / 2)=((crcBit e:Nat):Int):=by
 rw [crcBit,if_neg ho];omega
theorem crc_step {s:ByteArray} {i c d k e:Nat} (h1:i<s.size) (hx:c=crcGo 4294967295 (s.data.toList.take i)) (hd:c ^^^ s[i].toNat=d) (he:e=crcBits k d) (hk:k=8):e=crcGo 4294967295 (s.data.toList.take (i+1)):=by
 subst hk
 rw [List.take_succ_eq_append_getElem (by simpa using h1),crcGo_snoc,← hx,he,← hd];rfl
theorem xor_ones {c:Nat} (h:c<4294967296):4294967295 ^^^ c=4294967295-c:=by
 have h1:(BitVec.ofNat 32 c ^^^ BitVec.allOnes 32).toNat=(~~~ BitVec.ofNat 32 c).toNat:=by rw [BitVec.xor_allOnes]
 rw [BitVec.toNat_xor,BitVec.toNat_not,BitVec.toNat_allOnes,BitVec.toNat_ofNat,Nat.mod_eq_of_lt (show c<2 ^ 32 by omega),Nat.xor_comm] at h1
 exact h1
theorem u32_not {c:Nat} (h:c<4294967296):bits .xor .u32 IntKind.u32.max (c:Int)=((4294967295-c:Nat):Int):=by
 have:=u32_xor_nat 4294967295 c (by omega) h
 rw [xor_ones h] at this
 exact this
set_option maxHeartbeats 1600000 in
theorem page_Sum (s:ByteArray) (w:World) (hs:s.size≤9223372036854775807) :
 Calls Tryz.prog 194 #[.string s] w fun e w'=>e = .returned (.int .u32 (crcN s.data.toList:Nat))∧w=w':=by
 go_enter Tryz.func194,Tryz.ntmps194
 go_wp2_with fail
 go_loop [3,4] (fun v3 v4=>∃ i c:Nat,i≤s.size∧c<4294967296∧v3 = .int .u32 c∧v4 = .int .i64 i∧c=crcGo 4294967295 (s.data.toList.take i)) (fun _ v4=>s.size-(intOf v4).toNat)
 case atStart=>exact ⟨0,4294967295,Nat.zero_le _,by omega,rfl,rfl,rfl⟩
 case round =>
  obtain ⟨i,c,hi,hc,rfl,rfl,hx⟩:=hrel
  have HX:=Lib.hid hx;clear hx
  by_cases h1:i<s.size
  ·have x1:=xor_byte hc (byte_lt s[i])
   have hx2:c ^^^ s[i].toNat<4294967296:=xor_lt32 hc (byte_lt s[i])
   obtain ⟨d,hd⟩:∃ d,c ^^^ s[i].toNat=d:=⟨_,rfl⟩
   rw [hd] at x1 hx2
   have HD:=Lib.hid hd;clear hd
   obtain ⟨wo,rfl⟩:∃ wo:World,wo=w:=⟨_,rfl⟩
   go_wp2_with fail
   go_loop [3,17] (fun v3 v17=>∃ k e:Nat,k≤8∧e<4294967296∧v3 = .int .u32 e∧v17 = .int .i64 k∧e=crcBits k d) (fun _ v17=>8-(intOf v17).toNat)
   case atStart=>exact ⟨0,d,by omega,hx2,rfl,rfl,rfl⟩
   case round =>
    obtain ⟨k,e,hk,he,rfl,rfl,hy⟩:=hrel
    have HY:=Lib.hid hy;clear hy
    by_cases hk8:k<8
    ·by_cases ho:e % 2=1
     ·have a1:bits .and .u32 (e:Int) 1=1:=by rw [and_one he,ho];rfl
      have HO:=Lib.hid ho;clear ho
      have a2:=crc_odd he HO.out
      go_wp2_with fail
      go_round
      case rel=>exact ⟨k+1,_,by omega,crcBit_lt he,rfl,by simp,by rw [HY.out,crcBits_succ]⟩
      case measure=>simp [intOf];omega
     ·have a1:bits .and .u32 (e:Int) 1=0:=by rw [and_one he,show e % 2=0 by omega];rfl
      have HO:=Lib.hid ho;clear ho
      go_wp2_with fail
      go_round
      case rel=>exact ⟨k+1,_,by omega,crcBit_lt he,by rw [crc_even HO.out],by simp,by rw [HY.out,crcBits_succ]⟩
      case measure=>simp [intOf];omega
    ·have ST:=Lib.hid (crc_step h1 HX.out HD.out HY.out (by omega))
     go_wp2_with fail
     go_round
     case rel=>exact ⟨i+1,e,by omega,he,rfl,by simp,ST.out⟩
     case measure=>simp [intOf];omega
  ·obtain rfl:i=s.size:=by omega
   have T:crcGo 4294967295 (s.data.toList.take s.size)=crcGo 4294967295 s.data.toList:=by rw [List.take_of_length_le (by simp)]
   have E:=Lib.hid (show bits .xor .u32 IntKind.u32.max (c:Int)=((crcN s.data.toList:Nat):Int) by rw [u32_not hc,HX.out,T];rfl)
   clear T
   go_wp2_with fail
   go_ret
   exact ⟨ret_int E.out,rfl⟩
end Go.Proofs.YtjihboddejaelaaGreat
namespace Go.Proofs.YtjihboddejaelaaGreat
open Go.RowKit
open Go.BigFrame
set_option maxHeartbeats 400000 in
theorem page_two (n:Nat) (hn:n≤9223372036854775807) (w:World):Calls Tryz.prog 192 #[.int .i64 n] w fun e w'=>∃ g,e = .returned (.slice (some ⟨g,0,none⟩) 2 2)∧Has w' g 5 (u8s (beK n 2)).toArray∧Below w.heap.size w w'∧w.heap.size≤g:=by
 have E:=Lib.hid (show u8s (beK n 2)=[.int .u8 ((n:Int) / 256 % 256),.int .u8 ((n:Int) % 256)] by
  rw [beK_two];simp only [u8s,u8v,List.map_cons,List.map_nil,toNat_ofNat8];rw [show ((n / 256:Nat):Int)=(n:Int) / 256 by omega])
 go_enter Tryz.func192,Tryz.ntmps192
 go_wp2
 go_ret
 refine ⟨_,rfl, ?_,(Below.refl _ _).alloc (Nat.le_refl _) _,Nat.le_refl _⟩
 rw [E.out]
 exact Has.new w _ _
set_option maxRecDepth 100000 in
set_option maxHeartbeats 400000 in
theorem page_four (n:Nat) (hn:n≤4294967295) (w:World):Calls Tryz.prog 193 #[.int .i64 n] w (BytesPost w (beK n 4)):=by
 obtain ⟨i0,hi,hz0,hz1,hz2⟩:=info_parts infoByte
 have t1:=fun w1=>page_two (n / 65536) (by omega) w1
 rw [show ((n / 65536:Nat):Int)=(n:Int) / 65536 by omega] at t1
 have T1:=Lib.hid t1;clear t1
 have T2:=Lib.hid (fun w1=>page_two n (by omega) w1)
 have F4:=Lib.hid (beK_four n)
 have g1:2+2≤maxLen:=by unfold maxLen;omega
 go_enter Tryz.func193,Tryz.ntmps193
 go_wp2_with (first | (go_at_call 192;(with_reducible refine (T1.out _).mono ?_);rintro e1 w1 ⟨ga,rfl,ha,hb1,hl1⟩;have HA:=Lib.hid ha;clear ha) | (go_at_call 192;(with_reducible refine (T2.out _).mono ?_);rintro e2 w2 ⟨gb,rfl,hb,hb2,hl2⟩;have HA2:=Lib.hid (HA.out.belowS hb2);have HBB:=Lib.hid hb;clear hb) | (at_builtin;go_loud (refine wpList_append_full rfl (.tmp 5) (.tmp 7) 39 39 rfl w.heap.size 5 i0 _ 1 1 Tryz.underlying39 hi hz0 hz1 hz2 rfl ga 2 (u8s (beK (n / 65536) 2)) rfl (HA2.out.own hl1 rfl (by unfold maxLen;omega)) (.slice (some ⟨gb,0,none⟩) 2 2) 2 (u8s (beK n 2)) rfl ((BS.of_has HBB.out).src Tryz.underlying39) g1 (by omega) (Nat.le_trans hb1.size hb2.size) ?_);intro A4 c4 w3 hown hb3;have HO:=Lib.hid hown;clear hown))
 go_ret
 obtain ⟨A5,c5,e5,_,h5⟩:=BS.of_own (l:=beK n 4) (n:=4) (by rw [F4.out,u8s_append];exact HO.out)
 cases e5
 refine ⟨A4,c4,by show _=Ending.returned (.slice A4 (beK n 4).length c4);rw [beK_len];rfl,by rw [beK_len];exact h5,bel_step (bel_step hb1 hb2 hb1.size) hb3 (Nat.le_trans hb1.size hb2.size)⟩
end Go.Proofs.YtjihboddejaelaaGreat
namespace Go.Proofs.YtjihboddejaelaaGreat
open Go.RowKit
def usedN (cs:List ByteArray):Nat:=(cs.map fun c=>4+c.size).sum
theorem usedN_snoc (cs:List ByteArray) (c:ByteArray):usedN (cs++[c])=usedN cs+(4+c.size):=by simp [usedN]
theorem usedN_append (a b:List ByteArray):usedN (a++b)=usedN a+usedN b:=by simp [usedN]
theorem usedN_take_le (cs:List ByteArray) (i:Nat):usedN (cs.take i)≤usedN cs:=by
 have h:=usedN_append (cs.take i) (cs.drop i)
 rw [List.take_append_drop] at h
 omega
theorem usedN_take (cs:List ByteArray) {i:Nat} (h:i<cs.length):usedN (cs.take (i+1))=usedN (cs.take i)+(4+cs[i].size):=by
 rw [List.take_succ_eq_append_getElem h,usedN_snoc]
def bodyN (cs:List ByteArray):Nat:=(cs.map fun c=>2+c.size).sum
theorem bodyN_snoc (cs:List ByteArray) (c:ByteArray):bodyN (cs++[c])=bodyN cs+(2+c.size):=by simp [bodyN]
theorem bodyN_take (cs:List ByteArray) {i:Nat} (h:i<cs.length):bodyN (cs.take (i+1))=bodyN (cs.take i)+(2+cs[i].size):=by
 rw [List.take_succ_eq_append_getElem h,bodyN_snoc]
theorem used_body (cs:List ByteArray):usedN cs=bodyN cs+2*cs.length:=by
 induction cs with
 | nil=>rfl
 | cons c cs ih=>simp only [usedN,bodyN,List.map_cons,List.sum_cons,List.length_cons] at *;omega
def bodyL:List ByteArray→List UInt8
 | []=>[]
 | c :: cs=>bodyL cs++(beK c.size 2++c.data.toList)
theorem bodyL_snoc (cs:List ByteArray) (c:ByteArray):bodyL (cs++[c])=beK c.size 2++c.data.toList++bodyL cs:=by
 induction cs with
 | nil=>simp [bodyL]
 | cons d cs ih=>rw [List.cons_append,bodyL,ih,bodyL];simp
theorem bodyL_len (cs:List ByteArray):(bodyL cs).length=bodyN cs:=by
 induction cs with
 | nil=>rfl
 | cons c cs ih=>simp only [bodyL,List.length_append,ih,beK_len,bodyN,List.map_cons,List.sum_cons,Array.length_toList];rw [show c.data.size=c.size from rfl];omega
def offsL (cs:List ByteArray):Nat→List UInt8
 | 0=>[]
 | i+1=>offsL cs i++beK (1024-bodyN (cs.take (i+1))) 2
theorem offsL_len (cs:List ByteArray):∀ i,(offsL cs i).length=2*i
 | 0=>rfl
 | i+1=>by rw [offsL,List.length_append,offsL_len cs i,beK_len];omega
def headL (k l n:Nat):List UInt8:=[UInt8.ofNat k,0]++beK n 2++beK l 4
theorem headL_len (k l n:Nat):(headL k l n).length=8:=by simp [headL,beK_len]
def midL (k l:Nat) (cs:List ByteArray) (i:Nat):List UInt8:=headL k l cs.length++offsL cs i++List.replicate (1012-2*i-bodyN (cs.take i)) 0++bodyL (cs.take i)
theorem body_le {cs:List ByteArray} (h:usedN cs≤1012) (i:Nat) (hi:i≤cs.length):bodyN (cs.take i)+2*i≤1012:=by
 have:=used_body (cs.take i)
 have h2:=usedN_take_le cs i
 rw [List.length_take,Nat.min_eq_left hi] at this
 omega
theorem midL_len {k l:Nat} {cs:List ByteArray} (h:usedN cs≤1012) {i:Nat} (hi:i≤cs.length):(midL k l cs i).length=1020:=by
 have:=body_le h i hi
 simp only [midL,List.length_append,headL_len,offsL_len,List.length_replicate,bodyL_len]
 omega
def sealL (k l:Nat) (cs:List ByteArray):List UInt8:=beK (crcN (midL k l cs cs.length)) 4++midL k l cs cs.length
theorem sealL_len {k l:Nat} {cs:List ByteArray} (h:usedN cs≤1012):(sealL k l cs).length=1024:=by
 simp only [sealL,List.length_append,beK_len,midL_len h (Nat.le_refl _)]
section
variable {α:Type}
theorem splice_at (a m b x:List α) (hx:x.length=m.length):splice (a++m++b) a.length x=a++x++b:=by
 unfold splice
 have e1:(a++m++b).take a.length=a:=by rw [List.append_assoc,List.take_left]
 have e2:(a++m++b).drop (a.length+x.length)=b:=by rw [hx,← List.length_append,List.drop_left]
 rw [e1,e2,List.append_assoc]
theorem splice_at' {a m b x:List α} {o:Nat} (ho:a.length=o) (hx:x.length=m.length):splice (a++m++b) o x=a++x++b:=by
 subst ho;exact splice_at a m b x hx
theorem splice_len (L:List α) (o:Nat) (x:List α) (h:o+x.length≤L.length):(splice L o x).length=L.length:=length_splice L o x h
theorem splice_zero (L:List α) (o:Nat):splice L o []=L:=by simp [splice]
end
def pageL (k l:Nat) (cs:List ByteArray) (i:Nat):List UInt8:=[0,0,0,0]++midL k l cs i
theorem pageL_start (k l:Nat) (cs:List ByteArray):splice (splice ((List.replicate 1024 (0:UInt8)).set 4 (UInt8.ofNat k)) 6 (beK cs.length 2)) 8 (beK l 4)=pageL k l cs 0:=by
 have e1:(List.replicate 1024 (0:UInt8)).set 4 (UInt8.ofNat k)=[0,0,0,0,UInt8.ofNat k,0]++[0,0]++List.replicate 1016 0:=by
  rw [show (1024:Nat)=5+1019 from rfl,← List.replicate_append_replicate]
  rw [show (1019:Nat)=3+1016 from rfl,← List.replicate_append_replicate]
  rfl
 rw [e1,show (6:Nat)=([0,0,0,0,UInt8.ofNat k,0]:List UInt8).length from rfl,splice_at _ _ _ _ (by rw [beK_len];rfl)]
 have e2:(List.replicate 1016 (0:UInt8))=[0,0,0,0]++List.replicate 1012 0:=by
  rw [show (1016:Nat)=4+1012 from rfl,← List.replicate_append_replicate];rfl
 rw [e2,← List.append_assoc,show (8:Nat)=([0,0,0,0,UInt8.ofNat k,0]++beK cs.length 2:List UInt8).length by simp [beK_len],splice_at _ _ _ _ (by rw [beK_len];rfl)]
 have e3:1012-2*0-bodyN (cs.take 0)=1012:=rfl
 simp only [pageL,midL,headL,offsL,e3,List.take_zero,bodyL,List.append_nil,List.append_assoc]
 rfl
theorem pageL_step {k l:Nat} {cs:List ByteArray} (h:usedN cs≤1012) {i:Nat} (hi:i<cs.length) :
 splice (splice (splice (pageL k l cs i) (12+2*i) (beK (1024-bodyN (cs.take (i+1))) 2)) (1024-bodyN (cs.take (i+1))) (beK cs[i].size 2)) (1024-bodyN (cs.take (i+1))+2) cs[i].data.toList=pageL k l cs (i+1):=by
 have b1:=body_le h (i+1) (by omega)
 have b2:=bodyN_take cs hi
 have hb:bodyL (cs.take (i+1))=beK cs[i].size 2++cs[i].data.toList++bodyL (cs.take i):=by rw [List.take_succ_eq_append_getElem hi,bodyL_snoc]
 have hbl:=bodyL_len (cs.take i)
 have hcl:cs[i].data.toList.length=cs[i].size:=by simp
 generalize hB:bodyN (cs.take (i+1))=B at *
 generalize hb0:bodyN (cs.take i)=b0 at *
 generalize hc:cs[i].size=m at *
 generalize hd:cs[i].data.toList=d at *
 have ez:1012-2*i-b0=2+(1012-2*(i+1)-B)+2+m:=by omega
 obtain ⟨P,hP⟩:∃ P:List UInt8,[0,0,0,0]++headL k l cs.length++offsL cs i=P:=⟨_,rfl⟩
 obtain ⟨Z,hZ⟩:∃ Z:List UInt8,List.replicate (1012-2*(i+1)-B) 0=Z:=⟨_,rfl⟩
 have e0:pageL k l cs i=P++[0,0]++(Z++([0,0]++(List.replicate m 0++bodyL (cs.take i)))):=by
  rw [← hP,← hZ]
  simp only [pageL,midL,hb0,ez,← List.replicate_append_replicate,List.append_assoc]
  rfl
 have l1:P.length=12+2*i:=by rw [← hP];simp only [List.length_append,headL_len,offsL_len];rfl
 have lz:Z.length=1012-2*(i+1)-B:=by rw [← hZ,List.length_replicate]
 have s1:splice (P++[0,0]++(Z++([0,0]++(List.replicate m 0++bodyL (cs.take i))))) (12+2*i) (beK (1024-B) 2)=(P++beK (1024-B) 2++Z)++[0,0]++(List.replicate m 0++bodyL (cs.take i)):=by
  rw [splice_at' l1 (by rw [beK_len];rfl)];simp only [List.append_assoc]
 have l2:(P++beK (1024-B) 2++Z).length=1024-B:=by rw [List.length_append,List.length_append,l1,beK_len,lz];omega
 have s2:splice ((P++beK (1024-B) 2++Z)++[0,0]++(List.replicate m 0++bodyL (cs.take i))) (1024-B) (beK m 2)=(P++beK (1024-B) 2++Z++beK m 2)++List.replicate m 0++bodyL (cs.take i):=by
  rw [splice_at' l2 (by rw [beK_len];rfl)];simp only [List.append_assoc]
 have l3:(P++beK (1024-B) 2++Z++beK m 2).length=1024-B+2:=by rw [List.length_append,l2,beK_len]
 have s3:splice ((P++beK (1024-B) 2++Z++beK m 2)++List.replicate m 0++bodyL (cs.take i)) (1024-B+2) d=(P++beK (1024-B) 2++Z++beK m 2)++d++bodyL (cs.take i):=by
  rw [splice_at' l3 (by rw [hcl,List.length_replicate])]
 rw [e0,s1,s2,s3,← hP,← hZ]
 simp only [pageL,midL,hB,offsL,hb,List.append_assoc]
theorem pageL_sum {k l:Nat} {cs:List ByteArray}:splice (pageL k l cs cs.length) 0 (beK (crcN (midL k l cs cs.length)) 4)=sealL k l cs:=by
 have:=splice_at [] [0,0,0,0] (midL k l cs cs.length) (beK (crcN (midL k l cs cs.length)) 4) (by rw [beK_len];rfl)
 simpa [pageL,sealL] using this
theorem pageL_len {k l:Nat} {cs:List ByteArray} (h:usedN cs≤1012) {i:Nat} (hi:i≤cs.length):(pageL k l cs i).length=1024:=by
 simp only [pageL,List.length_append,midL_len h hi];rfl
end Go.Proofs.YtjihboddejaelaaGreat
namespace Go.Proofs.YtjihboddejaelaaGreat
open Go.RowKit
def fillA:List Oper→List Value→Act→Act
 | o :: l,u :: us,a=>fillA l us (a.put o.dst u)
 | _,_,a=>a
theorem put_put (a:Act) (x:Option Tmp) (u v:Value):(a.put x u).put x v=a.put x v:=by
 cases x with
 | none=>rfl
 | some d=>simp [Act.put,Array.setIfInBounds_setIfInBounds]
theorem put_same (a:Act) (x:Option Tmp):∃ u,a.put x u=a:=by
 cases x with
 | none=>exact ⟨undef,rfl⟩
 | some d =>
   refine ⟨a.tmps.getD d undef, ?_⟩
   have:a.tmps.setIfInBounds d (a.tmps.getD d undef)=a.tmps:=by
    apply Array.ext
    ·simp
    ·intro i h1 h2
     rw [Array.getElem_setIfInBounds]
     split
     ·rename_i e;subst e;simp [Array.getD_eq_getD_getElem?,h2]
     ·rfl
   show ({ a with tmps:=_ }:Act)=a
   rw [this]
theorem fillA_put (x:Option Tmp) (v:Value):∀ (l:List Oper) (us:List Value) (a:Act),(∀ o∈l,∀ d,x=some d→o.dst≠some d)→(fillA l us a).put x v=fillA l us (a.put x v)
 | [],_,_,_=>by simp [fillA]
 | _ :: _,[],_,_=>by simp [fillA]
 | o :: l,u :: us,a,h=>by
   simp only [fillA]
   rw [fillA_put x v l us _ (fun y hy=>h y (List.mem_cons_of_mem _ hy)),Act.put_comm a (x:=o.dst) (y:=x) u v (fun d hd hx=>h o (List.mem_cons_self ..) d hx hd)]
theorem fillA_same:∀ (l:List Oper) (a:Act),∃ us,us.length=l.length∧fillA l us a=a
 | [],a=>⟨[],rfl,rfl⟩
 | o :: l,a=>by
   obtain ⟨u,hu⟩:=put_same a o.dst
   obtain ⟨us,hl,hf⟩:=fillA_same l a
   exact ⟨u :: us,by simp [hl],by simp only [fillA];rw [hu,hf]⟩
def distinctB:List Oper→Bool
 | []=>true
 | o :: l=>(l.all fun y=>match o.dst with | some d=>y.dst != some d | none=>true) && distinctB l
theorem fillA_set (v:Value):∀ (l:List Oper) (us:List Value) (i:Nat) (o:Oper) (a:Act),distinctB l=true→us.length=l.length→l[i]? = some o→(fillA l us a).put o.dst v=fillA l (us.set i v) a
 | [],_,_,_,_,_,_,h=>by simp at h
 | x :: l,u :: us,i,o,a,hd,hl,hi=>by
   simp only [distinctB,Bool.and_eq_true,List.all_eq_true] at hd
   cases i with
   | zero =>
     simp only [List.getElem?_cons_zero,Option.some.injEq] at hi
     subst hi
     simp only [fillA,List.set_cons_zero]
     rw [fillA_put _ _ _ _ _ (fun y hy d hx=>by have:=hd.1 y hy;rw [hx] at this;simpa using this),put_put]
   | succ i =>
     simp only [List.getElem?_cons_succ] at hi
     simp only [fillA,List.set_cons_succ]
     exact fillA_set v l us i o _ hd.2 (by simpa using hl) hi
 | _ :: _,[],_,_,_,_,hl,_=>by simp at hl
def rowW (md:Region.Mode) (n:Nat) (acc:List (List Bool)) (o:Oper):List Bool :=
 (List.range n).map fun j=>o.after.toList.any fun e=>Region.binds md e && (e.on == j || (acc.getD e.on []).getD j false)
def rowsB (md:Region.Mode) (n:Nat) (l:List Oper):List (List Bool):=l.foldl (fun acc o=>acc++[rowW md n acc o]) []
theorem rowsB_snoc (md:Region.Mode) (n:Nat) (l:List Oper) (o:Oper):rowsB md n (l++[o])=rowsB md n l++[rowW md n (rowsB md n l) o]:=by
 simp [rowsB,List.foldl_append]
theorem rowsA_length (md:Region.Mode) (n:Nat):∀ (l:List Oper) (acc:List (List Bool)),(l.foldl (fun acc o=>acc++[rowW md n acc o]) acc).length=acc.length+l.length
 | [],acc=>by simp
 | o :: l,acc=>by
   rw [List.foldl_cons,rowsA_length md n l,List.length_append,List.length_cons,List.length_cons,List.length_nil]
   omega
theorem rowsB_length (md:Region.Mode) (n:Nat) (l:List Oper):(rowsB md n l).length=l.length:=by
 unfold rowsB
 rw [rowsA_length]
 simp
theorem rowsA_append (md:Region.Mode) (n:Nat):∀ (r:List Oper) (acc:List (List Bool)),∃ t,r.foldl (fun acc o=>acc++[rowW md n acc o]) acc=acc++t
 | [],acc=>⟨[],by simp⟩
 | o :: r,acc=>by
   obtain ⟨t,ht⟩:=rowsA_append md n r (acc++[rowW md n acc o])
   exact ⟨rowW md n acc o :: t,by rw [List.foldl_cons,ht,List.append_assoc];rfl⟩
theorem rowsB_append (md:Region.Mode) (n:Nat) (l r:List Oper):∃ t,rowsB md n (l++r)=rowsB md n l++t:=by
 unfold rowsB
 rw [List.foldl_append]
 exact rowsA_append md n r _
def waits (md:Region.Mode) (l:List Oper) (k j:Nat):Bool:=((rowsB md l.length l).getD k []).getD j false
theorem waits_spec {md:Region.Mode} {l:List Oper} {k j:Nat} {o:Oper} (ho:l[k]? = some o) (h:waits md l k j=true):∃ e∈o.after,Region.binds md e=true∧(e.on=j∨(e.on<k∧waits md l e.on j=true)):=by
 have hk:k<l.length:=(List.getElem?_eq_some_iff.1 ho).1
 have hsplit:l=l.take k++[o]++l.drop (k+1):=by
  rw [List.append_assoc,List.singleton_append,← (List.getElem?_eq_some_iff.1 ho).2,← List.drop_eq_getElem_cons hk,List.take_append_drop]
 obtain ⟨t,ht⟩:=rowsB_append md l.length (l.take k++[o]) (l.drop (k+1))
 rw [← hsplit,rowsB_snoc] at ht
 have hlen:(rowsB md l.length (l.take k)).length=k:=by rw [rowsB_length,List.length_take];omega
 have hat:(rowsB md l.length l).getD k []=rowW md l.length (rowsB md l.length (l.take k)) o:=by
  rw [ht,List.append_assoc,List.getD_eq_getElem?_getD,List.getElem?_append_right (by omega),hlen]
  simp
 have hbef:∀ q,q<k→(rowsB md l.length l).getD q []=(rowsB md l.length (l.take k)).getD q []:=fun q hq=>by
  rw [ht,List.append_assoc,List.getD_eq_getElem?_getD,List.getElem?_append_left (by omega),List.getD_eq_getElem?_getD]
 unfold waits at h
 rw [hat] at h
 have hj:j<l.length:=by
  rcases Nat.lt_or_ge j l.length with h1 | h1
  ·exact h1
  ·rw [List.getD_eq_getElem?_getD,List.getElem?_eq_none (by simpa [rowW] using h1)] at h
   cases h
 have h':(o.after.toList.any fun e=>Region.binds md e && (e.on == j || ((rowsB md l.length (l.take k)).getD e.on []).getD j false))=true:=by
  rw [List.getD_eq_getElem?_getD] at h
  unfold rowW at h
  rw [List.getElem?_map,List.getElem?_range hj] at h
  exact h
 obtain ⟨e,he,hh⟩:=List.any_eq_true.1 h'
 simp only [Bool.and_eq_true,Bool.or_eq_true,beq_iff_eq] at hh
 refine ⟨e,by simpa using he,hh.1,hh.2.imp id fun h2=>?_⟩
 have hek:e.on<k:=by
  rcases Nat.lt_or_ge e.on k with h1 | h1
  ·exact h1
  ·have hn:(rowsB md l.length (l.take k)).getD e.on []=[]:=by rw [List.getD_eq_getElem?_getD,List.getElem?_eq_none (by omega)];rfl
   rw [hn] at h2
   simp at h2
 exact ⟨hek,by unfold waits;rw [hbef _ hek];exact h2⟩
def backB (md:Region.Mode):Nat→List Oper→Bool
 | _,[]=>true
 | k,o :: l=>(o.after.toList.all fun e=>!Region.binds md e || decide (e.on<k)) && backB md (k+1) l
theorem backB_spec {md:Region.Mode}:∀ {k:Nat} {l:List Oper},backB md k l=true→∀ (i:Nat) (o:Oper),l[i]? = some o→∀ e∈o.after,Region.binds md e=true→e.on<k+i
 | _,[],_,_,_,h,_,_,_=>by simp at h
 | k,x :: l,hB,i,o,hi,e,he,hb=>by
   simp only [backB,Bool.and_eq_true,List.all_eq_true,Bool.or_eq_true,decide_eq_true_eq] at hB
   cases i with
   | zero =>
     simp only [List.getElem?_cons_zero,Option.some.injEq] at hi
     subst hi
     rcases hB.1 e (by simpa using he) with h | h
     ·simp [hb] at h
     ·simpa using h
   | succ i =>
     have:=backB_spec hB.2 i o (by simpa using hi) e he hb
     omega
def tailB (md:Region.Mode) (m:Nat) (l:List Oper):Bool :=
 backB md 0 l && (List.range l.length).all fun k=>decide (k<m) || (List.range k).all fun j=>waits md l k j
theorem tailB_back {md:Region.Mode} {m:Nat} {l:List Oper} (h:tailB md m l=true) {i:Nat} {o:Oper} (hi:l[i]? = some o) {e:Edge} (he:e∈o.after) (hb:Region.binds md e=true):e.on<i:=by
 simp only [tailB,Bool.and_eq_true] at h
 have:=backB_spec h.1 i o hi e he hb
 omega
theorem tailB_waits {md:Region.Mode} {m:Nat} {l:List Oper} (h:tailB md m l=true) {k j:Nat} (hk:k<l.length) (hm:m≤k) (hj:j<k):waits md l k j=true:=by
 simp only [tailB,Bool.and_eq_true,List.all_eq_true,List.mem_range,Bool.or_eq_true,decide_eq_true_eq] at h
 rcases h.2 k hk with h1 | h1
 ·omega
 ·exact h1 j hj
theorem waits_below {md:Region.Mode} {m:Nat} {l:List Oper} (hB:tailB md m l=true):∀ {k j:Nat},k<j→j<l.length→waits md l k j=false:=by
 intro k
 induction k using Nat.strongRecOn with
 | _ k ih =>
   intro j hkj hj
   cases hw:waits md l k j with
   | false=>rfl
   | true =>
     exfalso
     have hk:l[k]? = some l[k]:=by simp
     obtain ⟨e,he,hb,h⟩:=waits_spec hk hw
     have hlt:=tailB_back hB hk he hb
     rcases h with h | ⟨_,h⟩
     ·omega
     ·rw [ih e.on hlt (by omega) hj] at h;cases h
section
variable {P:Program} {md:Region.Mode} {Q:Exit→Act→World→Prop}
theorem getD_lt {l:Array Bool} {j:Nat} (h:j<l.size) (d:Bool):l.getD j d=l[j]:=by simp [Array.getD_eq_getD_getElem?,h]
theorem getD_set {l:Array Bool} {i j:Nat} (d:Bool):(l.setIfInBounds i true).getD j d=if i=j∧j<l.size then true else l.getD j d:=by
 by_cases hj:j<l.size
 ·rw [getD_lt (by simpa using hj),getD_lt hj,Array.getElem_setIfInBounds]
  ·simp [hj]
  ·exact hj
 ·rw [if_neg (fun h=>hj h.2)]
  simp [Array.getD_eq_getD_getElem?,hj]
theorem wpAny_tail {ops:Array Oper} {m:Nat} (hB:tailB md m ops.toList=true):∀ (rest:List Oper) (k:Nat) (listed:Array Bool) (b:Act) (w:World),m≤k→listed.size=ops.size→(∀ j,j<k→listed.getD j false=true) →
 (∀ j,k≤j→j<ops.size→listed.getD j true=false)→rest=ops.toList.drop k→wpList P ops Q rest b w→wpAny P md ops Q rest.length listed b w
 | [],k,listed,b,w,_,hs,ht,_,hr,h=>by
   refine ⟨?_,h⟩
   have hk:ops.size≤k:=by
    have:=congrArg List.length hr
    simp at this;omega
   apply List.eq_nil_iff_forall_not_mem.2
   intro j hj
   obtain ⟨h0,o,ho,_⟩:=mem_ready.1 hj
   have hlt:j<ops.size:=(Array.getElem?_eq_some_iff.1 ho).1
   have:=ht j (by omega)
   rw [getD_lt (by omega)] at h0 this
   rw [h0] at this;cases this
 | o :: rest,k,listed,b,w,hm,hs,ht,hf,hr,h=>by
   have hlt:k<ops.size:=by
    have:=congrArg List.length hr
    simp at this;omega
   have hok:ops[k]? = some o:=by
    have:(ops.toList.drop k)[0]? = some o:=by rw [← hr];rfl
    simpa using this
   have hrest:rest=ops.toList.drop (k+1):=by
    have:=congrArg List.tail hr
    simpa using this
   have hkr:k∈Region.ready md ops listed:=mem_ready.2 ⟨hf k (Nat.le_refl _) hlt,o,hok,fun e he hb=>ht _ (by
    exact tailB_back hB (i:=k) (o:=o) (by simpa using hok) he hb)⟩
   refine ⟨(fun h0=>by rw [h0] at hkr;cases hkr),fun i hi=>?_⟩
   obtain ⟨hi0,oi,hoi,hall⟩:=mem_ready.1 hi
   have hilt:i<ops.size:=(Array.getElem?_eq_some_iff.1 hoi).1
   have hik:¬ i<k:=fun hh=>by
    have:=ht i hh
    rw [getD_lt (by omega)] at hi0 this
    rw [hi0] at this;cases this
   have hki:¬ k<i:=fun hh=>by
    obtain ⟨e,he,hb,hon⟩:=waits_spec (by simpa using hoi) (tailB_waits hB (k:=i) (j:=k) (by simpa using hilt) (by omega) hh)
    have h1:=hall e he hb
    have hel:e.on<ops.size:=by have:=tailB_back hB (i:=i) (o:=oi) (by simpa using hoi) he hb;omega
    have hek:k≤e.on:=by
     rcases hon with h2 | ⟨_,h2⟩
     ·omega
     ·rcases Nat.lt_or_ge e.on k with h3 | h3
      ·exact absurd h2 (by rw [waits_below hB h3 hlt];simp)
      ·exact h3
    have h2:=hf e.on hek hel
    rw [getD_lt (by omega)] at h1 h2
    rw [h1] at h2;cases h2
   obtain rfl:i=k:=by omega
   have h':wpOp P ops Q i (wpList P ops Q rest) b w:=by
    unfold wpOp
    rw [hok]
    exact h
   refine wpOp_mono (fun a' w' hh=>?_) h'
   refine wpAny_tail hB rest (i+1) _ a' w' (by omega) (by simpa using hs) (fun j hj=>?_) (fun j hj hjs=>?_) hrest hh
   ·rw [getD_set]
    split
    ·rfl
    ·rename_i hn
     exact ht j (by
      rcases Nat.lt_or_ge j i with h1 | h1
      ·exact h1
      ·exact absurd ⟨by omega,by omega⟩ hn)
   ·rw [getD_set]
    rw [if_neg (by omega)]
    exact hf j (by omega) hjs
def goodUpon (P:Program) (R:Value→World→Prop):Result Next→Prop
 | .ok (.value u) w'=>R u w'
 | .ok .skip w'=>R undef w'
 | .ok (.enter f args) w'=>Calls P f args w' (fun e w''=>∃ v,e = .returned v∧R v w'')
 | _=>False
def OpGood (P:Program) (ops:Array Oper) (PP:Nat→Value→World→Prop) (own:Nat→Value→Option Nat) (i:Nat) (o:Oper) (A:Act) (w:World):Prop :=
 if Region.wanted o (yielded ops A.tmps) then goodUpon P (fun v w'=>Below w.heap.size w w'∧PP i v w'∧∀ b,own i v=some b→w.heap.size≤b) ((execOp A.eval o).run P w) else PP i undef w
attribute [local go_sem] OpGood goodUpon
theorem wp_of_good {o:Oper} {A:Act} {w:World} {R:Value→World→Prop} (h:goodUpon P R ((execOp A.eval o).run P w)):o.wp P A w (fun a' w'=>∃ v,a'=A.put o.dst v∧R v w') Q:=by
 unfold Oper.wp
 generalize (execOp A.eval o).run P w=r at *
 cases r with
 | ok n w' =>
   cases n <;> simp only [goodUpon] at h <;> simp only [Oper.upon]
   case value u=>exact ⟨u,rfl,h⟩
   case skip=>exact ⟨undef,rfl,h⟩
   case enter f args=>exact h.mono fun e w'' ⟨v,he,hr⟩=>by subst he;exact ⟨v,rfl,hr⟩
 | halt x w'=>simp only [goodUpon] at h
theorem good_own {ops:Array Oper} {PP:Nat→Value→World→Prop} {own:Nat→Value→Option Nat} {i:Nat} {o:Oper} {A:Act} {w:World} (hg:o.guard=none) (h:goodUpon P (fun v w'=>Below w.heap.size w w'∧PP i v w'∧∀ b,own i v=some b→w.heap.size≤b) ((execOp A.eval o).run P w)):OpGood P ops PP own i o A w:=by
 unfold OpGood
 rw [if_pos (by simp [Region.wanted,hg])]
 exact h
theorem goodUpon_mono {R R':Value→World→Prop} (h:∀ v w,R v w→R' v w) {r:Result Next} (hr:goodUpon P R r):goodUpon P R' r:=by
 cases r with
 | ok n w' =>
   cases n <;> simp only [goodUpon] at hr ⊢
   case value u=>exact h _ _ hr
   case skip=>exact h _ _ hr
   case enter f args=>exact hr.mono fun e w'' ⟨v,he,hv⟩=>⟨v,he,h _ _ hv⟩
 | halt x w'=>simp only [goodUpon] at hr
def noOwn:Nat→Value→Option Nat:=fun _ _=>none
theorem good_plain {ops:Array Oper} {PP:Nat→Value→World→Prop} {i:Nat} {o:Oper} {A:Act} {w:World} (hg:o.guard=none) (h:goodUpon P (fun v w'=>Below w.heap.size w w'∧PP i v w') ((execOp A.eval o).run P w)):OpGood P ops PP noOwn i o A w :=
 good_own hg (goodUpon_mono (fun _ _ hh=>⟨hh.1,hh.2,fun b hb=>by cases hb⟩) h)
theorem wpAny_inv {l1 l2:List Oper} {a:Act} {C:World→Prop} {PP:Nat→Value→World→Prop} {own:Nat→Value→Option Nat} (hown:∀ j u w,PP j u w→∀ b,own j u=some b→b<w.heap.size) (hund:∀ j,own j undef=none) (hd:distinctB l1=true) (hB:tailB md l1.length (l1++l2)=true)
 (hC:∀ w w',C w→Below w.heap.size w w'→C w') (hst:∀ j u w w',Below w.heap.size w w'→PP j u w→PP j u w')
 (hops:∀ (us:List Value) (w:World),us.length=l1.length→C w→∀ i o,l1[i]? = some o→(∀ j,(o.after.toList.any fun e=>Region.binds md e && e.on == j)=true→PP j (us.getD j undef) w) →
   OpGood P (l1++l2).toArray PP own i o (fillA l1 us a) w)
 (hend:∀ (us:List Value) (w:World),us.length=l1.length→C w→(∀ j,j<l1.length→PP j (us.getD j undef) w)→(∀ i j b,i<l1.length→j<l1.length→i≠j→own i (us.getD i undef)=some b→own j (us.getD j undef)≠some b)→wpList P (l1++l2).toArray Q l2 (fillA l1 us a) w) :
 ∀ (fuel:Nat) (listed:Array Bool) (us:List Value) (w:World),listed.size=l1.length+l2.length→listed.toList.count false=fuel→us.length=l1.length→C w →
   (∀ j,j<l1.length→listed.getD j true=true→PP j (us.getD j undef) w)→(∀ j,l1.length≤j→j<l1.length+l2.length→listed.getD j true=false) →
   (∀ q o,(l1++l2)[q]? = some o→listed.getD q true=true→∀ e∈o.after,Region.binds md e=true→listed.getD e.on false=true) →
   (∀ i j b,i<l1.length→j<l1.length→i≠j→listed.getD i true=true→listed.getD j true=true→own i (us.getD i undef)=some b→own j (us.getD j undef)≠some b) →
   wpAny P md (l1++l2).toArray Q fuel listed (fillA l1 us a) w:=by
 intro fuel
 induction fuel with
 | zero =>
   intro listed us w hs hc hl hCw hP hno hdc hdis
   have hall:∀ j,j<listed.size→listed.getD j true=true:=fun j hj=>by
    have hn:false∉listed.toList:=fun hm=>by have:=List.count_pos_iff.2 hm;omega
    rw [getD_lt hj]
    cases hv:listed[j] with
    | true=>rfl
    | false=>exact absurd (by rw [← hv];simp) hn
   have h2:l2=[]:=by
    cases l2 with
    | nil=>rfl
    | cons x l =>
      have:=hno l1.length (Nat.le_refl _) (by simp)
      rw [hall _ (by rw [hs];simp)] at this
      cases this
   subst h2
   have he:=hend us w hl hCw (fun j hj=>hP j hj (hall j (by rw [hs];simp;omega))) (fun i j b hi hj hne=>hdis i j b hi hj hne (hall i (by rw [hs];simp;omega)) (hall j (by rw [hs];simp;omega)))
   have:=wpAny_tail (P:=P) (Q:=Q) (md:=md) (ops:=(l1++[]).toArray) (m:=l1.length) (by simpa using hB) [] l1.length listed (fillA l1 us a) w (Nat.le_refl _) (by simpa using hs)
    (fun j hj=>by have:=hall j (by rw [hs];simp;omega);rw [getD_lt (by rw [hs];simp;omega)] at this ⊢;exact this)
    (fun j hj hjs=>by simp at hjs;omega) (by simp) he
   exact this
 | succ fuel ih =>
   intro listed us w hs hc hl hCw hP hno hdc hdis
   by_cases hall:∀ j,j<l1.length→listed.getD j true=true
   ·have he:=hend us w hl hCw (fun j hj=>hP j hj (hall j hj)) (fun i j b hi hj hne=>hdis i j b hi hj hne (hall i hi) (hall j hj))
    have hlen:l2.length=fuel+1:=by
     rw [← hc]
     have e:listed.toList=List.replicate l1.length true++List.replicate l2.length false:=by
      apply List.ext_getElem
      ·simp [hs]
      ·intro j h1 h2
       have hj:j<listed.size:=by simpa using h1
       rw [List.getElem_append]
       split
       ·rename_i hlt
        have:=hall j (by simpa using hlt)
        rw [getD_lt hj] at this
        simpa using this
       ·rename_i hge
        have:=hno j (by simpa using hge) (by rw [← hs];exact hj)
        rw [getD_lt hj] at this
        simpa using this
     rw [e,List.count_append,List.count_replicate,List.count_replicate]
     simp
    have:=wpAny_tail (P:=P) (Q:=Q) (md:=md) (ops:=(l1++l2).toArray) (m:=l1.length) (by simpa using hB) l2 l1.length listed (fillA l1 us a) w (Nat.le_refl _) (by simpa using hs)
     (fun j hj=>by have:=hall j hj;rw [getD_lt (by rw [hs];omega)] at this ⊢;exact this)
     (fun j hj hjs=>hno j hj (by simpa using hjs)) (by simp) he
    rw [hlen] at this
    exact this
   ·have hex:∃ j,j<l1.length∧listed.getD j true=false:=by
     refine Classical.byContradiction fun hne=>hall fun j hj=>?_
     cases hv:listed.getD j true with
     | true=>rfl
     | false=>exact absurd ⟨j,hj,hv⟩ hne
    have hmin:∃ j,j<l1.length∧listed.getD j true=false∧∀ q,q<j→listed.getD q true=true:=by
     obtain ⟨j,hj,hf⟩:=hex
     induction j using Nat.strongRecOn with
     | _ j ihj =>
       by_cases h:∀ q,q<j→listed.getD q true=true
       ·exact ⟨j,hj,hf,h⟩
       ·have:∃ q,q<j∧listed.getD q true=false:=by
         refine Classical.byContradiction fun hne=>h fun q hq=>?_
         cases hv:listed.getD q true with
         | true=>rfl
         | false=>exact absurd ⟨q,hq,hv⟩ hne
        obtain ⟨q,hq,hqf⟩:=this
        exact ihj q hq (by omega) hqf
    obtain ⟨k,hk,hkf,hkmin⟩:=hmin
    have hgetk:(l1++l2).toArray[k]? = some l1[k]:=by simp [List.getElem?_append_left hk,hk]
    have hkr:k∈Region.ready md (l1++l2).toArray listed:=mem_ready.2 ⟨hkf,l1[k],hgetk,fun e he hb=>by
     have hlt:=tailB_back hB (i:=k) (o:=l1[k]) (by simpa using hgetk) he hb
     have:=hkmin e.on (by omega)
     rw [getD_lt (by rw [hs];omega)] at this ⊢
     exact this⟩
    refine ⟨(fun h0=>by rw [h0] at hkr;cases hkr),fun i hi=>?_⟩
    obtain ⟨hi0,oi,hoi,hafter⟩:=mem_ready.1 hi
    have him:i<l1.length:=by
     rcases Nat.lt_or_ge i l1.length with h | h
     ·exact h
     ·exfalso
      have hil:i<(l1++l2).length:=(List.getElem?_eq_some_iff.1 (show (l1++l2)[i]? = some oi by simpa using hoi)).1
      have key:∀ q,q<(l1++l2).length→waits md (l1++l2) q k=true→(listed.getD q true=true∨q=i)→False:=by
       intro q
       induction q using Nat.strongRecOn with
       | _ q ihq =>
         intro hq hw hor
         have hqo:(l1++l2)[q]? = some (l1++l2)[q]:=by simp
         obtain ⟨e,he,hb,hon⟩:=waits_spec hqo hw
         have hlt:=tailB_back hB hqo he hb
         have hle:listed.getD e.on false=true:=by
          rcases hor with h1 | h1
          ·exact hdc q _ hqo h1 e he hb
          ·subst h1
           have:(l1++l2)[q]=oi:=by
            have h3:(l1++l2)[q]? = some oi:=by simpa using hoi
            rw [hqo] at h3
            exact Option.some.inj h3
           exact hafter e (by rw [← this];exact he) hb
         have hes:e.on<listed.size:=by rw [hs,← List.length_append];omega
         rcases hon with h2 | ⟨_,h2⟩
         ·rw [h2] at hle
          rw [getD_lt (by rw [hs];omega)] at hle hkf
          rw [hle] at hkf;cases hkf
         ·refine ihq e.on hlt (by omega) h2 (.inl ?_)
          rw [getD_lt hes] at hle ⊢
          exact hle
      exact key i hil (tailB_waits hB hil h (by omega)) (.inr rfl)
    have hoi1:l1[i]? = some oi:=by simpa [List.getElem?_append_left him] using hoi
    have hgood:=hops us w hl hCw i oi hoi1 (fun j hj=>by
     obtain ⟨q,hq,hh⟩:=List.any_eq_true.1 hj
     simp only [Bool.and_eq_true,beq_iff_eq] at hh
     have hlt:=tailB_back hB (i:=i) (o:=oi) (by simpa using hoi) (by simpa using hq) hh.1
     have:=hafter _ (by simpa using hq) hh.1
     rw [hh.2] at this hlt
     refine hP j (by omega) ?_
     rw [getD_lt (by rw [hs];omega)] at this ⊢
     exact this)
    have hcount:(listed.setIfInBounds i true).toList.count false=fuel:=by
     have hil:i<listed.toList.length:=by simp [hs];omega
     have hv:listed.toList[i]=false:=by
      rw [getD_lt (by simpa using hil)] at hi0
      simpa using hi0
     rw [Array.toList_setIfInBounds,List.count_set hil,hv,hc]
     simp
    have next:∀ v w',Below w.heap.size w w'→PP i v w'→(∀ b,own i v=some b→w.heap.size≤b)→wpAny P md (l1++l2).toArray Q fuel (listed.setIfInBounds i true) ((fillA l1 us a).put oi.dst v) w':=fun v w' hb hp hfr=>by
     rw [fillA_set v l1 us i oi a hd hl hoi1]
     refine ih _ _ w' (by simpa using hs) hcount (by simpa using hl) (hC w w' hCw hb) (fun j hj hjl=>?_) (fun j hj hjs=>?_) (fun q o hqo hql e he heb=>?_) (fun x y b hx hy hne hxl hyl hox hoy=>?_)
     ·rw [getD_set] at hjl
      by_cases hij:i=j
      ·subst hij
       have:(us.set i v).getD i undef=v:=by simp [List.getD,hl,him]
       rw [this];exact hp
      ·rw [if_neg (by omega)] at hjl
       have:(us.set i v).getD j undef=us.getD j undef:=by simp [List.getD,List.getElem?_set_ne hij]
       rw [this]
       exact hst j _ w w' hb (hP j hj hjl)
     ·rw [getD_set,if_neg (by omega)]
      exact hno j hj hjs
     ·have hlist:listed.getD e.on false=true:=by
       rw [getD_set] at hql
       by_cases hiq:i=q
       ·subst hiq
        have h3:(l1++l2)[i]? = some oi:=by simpa using hoi
        rw [h3] at hqo
        cases hqo
        exact hafter e he heb
       ·rw [if_neg (fun hh=>hiq hh.1)] at hql
        exact hdc q o hqo hql e he heb
      rw [getD_set]
      split
      ·rfl
      ·exact hlist
     ·rw [getD_set] at hxl hyl
      have atI:(us.set i v).getD i undef=v:=by simp [List.getD,hl,him]
      have atO:∀ j,i≠j→(us.set i v).getD j undef=us.getD j undef:=fun j hij=>by simp [List.getD,List.getElem?_set_ne hij]
      by_cases hix:i=x
      ·subst hix
       rw [atI] at hox
       rw [atO y hne] at hoy
       rw [if_neg (fun hh=>hne hh.1)] at hyl
       have h1:=hfr b hox
       have h2:=hown y _ w (hP y hy hyl) b hoy
       omega
      ·rw [atO x hix] at hox
       rw [if_neg (fun hh=>hix hh.1)] at hxl
       by_cases hiy:i=y
       ·subst hiy
        rw [atI] at hoy
        have h1:=hfr b hoy
        have h2:=hown x _ w (hP x hx hxl) b hox
        omega
       ·rw [atO y hiy] at hoy
        rw [if_neg (fun hh=>hiy hh.1)] at hyl
        exact hdis x y b hx hy hne hxl hyl hox hoy
    unfold wpOp
    simp only [hoi]
    unfold OpGood at hgood
    by_cases hw:Region.wanted oi (yielded (l1++l2).toArray (fillA l1 us a).tmps)=true
    ·rw [if_pos hw] at hgood ⊢
     refine .inl (Oper.wp_mono (fun a' w' hh=>?_) (wp_of_good hgood))
     obtain ⟨v,rfl,hb,hp,hfr⟩:=hh
     exact next v w' hb hp hfr
    ·rw [if_neg hw] at hgood ⊢
     exact next undef w (Below.refl _ _) hgood (fun b hb=>by rw [hund] at hb;cases hb)
def AllGood (P:Program) (ops:Array Oper) (PP:Nat→Value→World→Prop) (own:Nat→Value→Option Nat) (A:Act) (us:List Value) (w:World):Nat→List Oper→Prop
 | _,[]=>True
 | i,o :: l=>((∀ j,(o.after.toList.any fun e=>Region.binds .any e && e.on == j)=true→PP j (us.getD j undef) w)→OpGood P ops PP own i o A w)∧AllGood P ops PP own A us w (i+1) l
theorem AllGood.at {P:Program} {ops:Array Oper} {PP:Nat→Value→World→Prop} {own:Nat→Value→Option Nat} {A:Act} {us:List Value} {w:World}:∀ {k:Nat} {l:List Oper},AllGood P ops PP own A us w k l→∀ i o,l[i]? = some o →
 (∀ j,(o.after.toList.any fun e=>Region.binds .any e && e.on == j)=true→PP j (us.getD j undef) w)→OpGood P ops PP own (k+i) o A w
 | _,[],_,i,o,h,_=>by simp at h
 | k,x :: l,hg,i,o,hi,hd=>by
   cases i with
   | zero =>
     simp only [List.getElem?_cons_zero,Option.some.injEq] at hi
     subst hi
     exact hg.1 hd
   | succ i =>
     have:=AllGood.at hg.2 i o (by simpa using hi) hd
     rw [show k+(i+1)=k+1+i by omega]
     exact this
def AllHold (PP:Nat→Value→World→Prop) (w:World):Nat→List Value→Prop
 | _,[]=>True
 | i,u :: us=>PP i u w∧AllHold PP w (i+1) us
theorem AllHold.of {PP:Nat→Value→World→Prop} {w:World}:∀ {k:Nat} {us:List Value},(∀ j,j<us.length→PP (k+j) (us.getD j undef) w)→AllHold PP w k us
 | _,[],_=>trivial
 | k,u :: us,h=>⟨h 0 (by simp),AllHold.of fun j hj=>by
   have:=h (j+1) (by simpa using hj)
   rw [show k+1+j=k+(j+1) by omega]
   exact this⟩
theorem wp_region_own {id:Nat} {a:Act} {w:World} {l:List Oper} (m:Nat) (C:World→Prop) (PP:Nat→Value→World→Prop) (own:Nat→Value→Option Nat) (hm:P.follows .mixedOrders=true) (hd:distinctB (l.take m)=true) (hB:tailB .any (l.take m).length l=true)
 (hC:∀ w w',C w→Below w.heap.size w w'→C w') (hst:∀ j u w w',Below w.heap.size w w'→PP j u w→PP j u w') (h0:C { w with drawn:=w.drawn+1 }) (hown:∀ j u w,PP j u w→∀ b,own j u=some b→b<w.heap.size) (hund:∀ j,own j undef=none)
 (hops:∀ (us:List Value) (w:World),us.length=(l.take m).length→C w→AllGood P l.toArray PP own (fillA (l.take m) us a) us w 0 (l.take m))
 (hend:∀ (us:List Value) (w:World),us.length=(l.take m).length→C w→AllHold PP w 0 us→(∀ i j b,i<us.length→j<us.length→i≠j→own i (us.getD i undef)=some b→own j (us.getD j undef)≠some b)→wpList P l.toArray Q (l.drop m) (fillA (l.take m) us a) w) :
 (Code.region id l.toArray true).wp P Q a w:=by
 have hl:l.take m++l.drop m=l:=List.take_append_drop m l
 obtain ⟨us,hus,hf⟩:=fillA_same (l.take m) a
 refine wp_region_any hm ?_
 have:=wpAny_inv (P:=P) (Q:=Q) (md:=.any) (l1:=l.take m) (l2:=l.drop m) (a:=a) (C:=C) (PP:=PP) (own:=own) hown hund hd (by rw [hl];exact hB) hC hst (by rw [hl];exact fun us w h1 h2 i o h3 h4=>by have:=(hops us w h1 h2).at i o h3 h4;rwa [Nat.zero_add] at this)
  (by rw [hl];exact fun us w h1 h2 h3 h4=>hend us w h1 h2 (AllHold.of fun j hj=>by rw [Nat.zero_add];exact h3 j (by rw [← h1];exact hj)) (fun i j b hi hj=>h4 i j b (by rw [← h1];exact hi) (by rw [← h1];exact hj))) l.length (Array.replicate l.length false) us
  { w with drawn:=w.drawn+1 } (by rw [Array.size_replicate,← List.length_append,hl]) (by simp) hus h0 (fun j hj hjl=>by
    have:j<l.length:=by rw [List.length_take] at hj;omega
    rw [getD_lt (by simpa using this)] at hjl
    simp at hjl) (fun j _ hj=>by
    have:j<l.length:=by rw [← List.length_append,hl] at hj;exact hj
    rw [getD_lt (by simpa using this)]
    simp) (fun q o hqo hql=>by
    have:q<l.length:=by rw [hl] at hqo;exact (List.getElem?_eq_some_iff.1 hqo).1
    rw [getD_lt (by simpa using this)] at hql
    simp at hql) (fun i _ _ hi _ _ hil=>by
    have:i<l.length:=by rw [List.length_take] at hi;omega
    rw [getD_lt (by simpa using this)] at hil
    simp at hil)
 rw [hf,hl] at this
 simpa using this
theorem wp_region_inv {id:Nat} {a:Act} {w:World} {l:List Oper} (m:Nat) (C:World→Prop) (PP:Nat→Value→World→Prop) (hm:P.follows .mixedOrders=true) (hd:distinctB (l.take m)=true) (hB:tailB .any (l.take m).length l=true)
 (hC:∀ w w',C w→Below w.heap.size w w'→C w') (hst:∀ j u w w',Below w.heap.size w w'→PP j u w→PP j u w') (h0:C { w with drawn:=w.drawn+1 })
 (hops:∀ (us:List Value) (w:World),us.length=(l.take m).length→C w→AllGood P l.toArray PP noOwn (fillA (l.take m) us a) us w 0 (l.take m))
 (hend:∀ (us:List Value) (w:World),us.length=(l.take m).length→C w→AllHold PP w 0 us→wpList P l.toArray Q (l.drop m) (fillA (l.take m) us a) w) :
 (Code.region id l.toArray true).wp P Q a w :=
 wp_region_own m C PP noOwn hm hd hB hC hst h0 (fun _ _ _ _ b hb=>by cases hb) (fun _=>rfl) hops (fun us w h1 h2 h3 _=>hend us w h1 h2 h3)
end
end Go.Proofs.YtjihboddejaelaaGreat
namespace Go.Proofs.YtjihboddejaelaaGreat
open Go.RowKit
open Go.BigFrame
attribute [local go_sem] OpGood goodUpon fillA Act.put
def SS (w:World) (A:Option Addr) (n:Nat) (l:List ByteArray):Prop :=
 l.length=n∧(0<n→∃ b off,A=some ⟨b,off,none⟩∧b<w.heap.size∧∀ i v,l[i]? = some v→w.cell? ⟨b,off+i,none⟩=some (.string v))
theorem SS.keep {w w':World} {A:Option Addr} {n:Nat} {l:List ByteArray} (h:SS w A n l) (hb:Below w.heap.size w w'):SS w' A n l :=
 ⟨h.1,fun hn=>by
   obtain ⟨b,off,hA,hl,hc⟩:=h.2 hn
   exact ⟨b,off,hA,Nat.lt_of_lt_of_le hl hb.size,fun i v hv=>(hb.cell (p:=⟨b,off+i,none⟩) hl).trans (hc i v hv)⟩⟩
set_option maxHeartbeats 400000 in
theorem page_Used (A:Option Addr) (n c:Nat) (cs:List ByteArray) (w:World) (h:SS w A n cs) (hn:n≤4194304) (hu:usedN cs≤8388608) :
 Calls Tryz.prog 141 #[.slice A n c] w fun e w'=>e = .returned (.int .i64 (usedN cs:Nat))∧w=w':=by
 go_enter Tryz.func141,Tryz.ntmps141
 go_wp2_with fail
 go_loop [3,8] (fun v3 v8=>∃ i:Nat,i≤n∧v8 = .int .i64 i∧v3 = .int .i64 (usedN (cs.take i):Nat)) (fun _ v8=>n-(intOf v8).toNat)
 case atStart=>exact ⟨0,Nat.zero_le _,rfl,rfl⟩
 case round =>
  obtain ⟨i,hi,rfl,rfl⟩:=hrel
  by_cases h1:i<n
  ·obtain ⟨b,off,rfl,hb,hc⟩:=h.2 (by omega)
   have hl:i<cs.length:=by rw [h.1];exact h1
   have c0:=hc i cs[i] (by simp [hl])
   have E:=Lib.hid (usedN_take cs hl)
   have x1:=usedN_take_le cs (i+1)
   rw [E.out] at x1
   obtain ⟨x,hx⟩:∃ x,usedN (cs.take i)=x:=⟨_,rfl⟩
   rw [hx] at x1
   have HX:=Lib.hid hx
   rw [hx]
   clear hx hc
   have x2:x≤8388608:=by omega
   have x3:cs[i].size≤8388608:=by omega
   go_wp2_with fail
   go_round
   case rel=>exact ⟨i+1,by omega,by simp,by rw [E.out,HX.out];simp⟩
   case measure=>simp [intOf];omega
  ·obtain rfl:i=n:=by omega
   have E:=Lib.hid (show ((usedN (cs.take i):Nat):Int)=(usedN cs:Nat) by rw [← h.1,List.take_length])
   go_wp2_with fail
   go_ret
   exact ⟨ret_int E.out,rfl⟩
theorem u8s_splice (L:List UInt8) (o:Nat) (x:List UInt8):splice (u8s L) o (u8s x)=u8s (splice L o x):=by
 simp [splice,u8s,List.map_take,List.map_drop]
theorem wpList_copy_BS {P:Program} {w:World} {ops:Array Oper} {rest:List Oper} {o:Oper} {a:Act} {Q:Exit→Act→World→Prop} (hgd:o.guard=none) (d s:Operand) (dT sT:TypeId)
 (ho:o.op = .call { callee:=.builtin .copy,args:=#[d,s],argTypes:=#[dT,sT] }) (elem:TypeId) (hu:P.underlying dT=some (.slice elem)) (hsz:(P.info? elem).map (·.size)=some 1)
 (dp:Option Addr) (dLen dCap:Nat) (A:Option Addr) (m c:Nat) (hd:a.eval d = .slice dp dLen dCap) (hs:a.eval s = .slice A m c) (l:List UInt8) (hl:BS w A m l)
 (g off:Nat) (cur:List UInt8) (t:TypeId) (hg:Has w g t (u8s cur).toArray) (hdp:0<m→dp=some ⟨g,off,none⟩) (hle:m≤dLen) (hfit:off+m≤cur.length)
 (h:∀ w',Has w' g t (u8s (splice cur off l)).toArray→Below g w w'→wpList P ops Q rest (a.put o.dst (goInt m)) w'):wpList P ops Q (o :: rest) a w:=by
 have hlen:(u8s l).length=m:=by rw [u8s_len,hl.1]
 refine wpList_copy_splice hgd d s dT sT ho elem hu hsz dp A dLen dCap m c hd hs g off (u8s cur) t hg (u8s l) (by rw [hlen];exact (Nat.min_eq_left hle).symm) (fun h0=>?_) (by rw [hlen,u8s_len];exact hfit) u8s_one g w (Below.refl _ _) (Nat.le_refl _) (fun w' hw hb=>?_)
 ·rw [hlen] at h0
  obtain ⟨b,of,hA,hbl,hc⟩:=hl.2 h0
  refine ⟨hdp h0,⟨b,of,none⟩,hA,fun j v hj=>?_⟩
  rw [addr_add]
  rw [u8s_get] at hj
  obtain ⟨x,hx,rfl⟩:=Option.map_eq_some_iff.1 hj
  exact hc j x hx
 ·have hw':=hw.out
  rw [u8s_splice] at hw'
  rw [hlen]
  exact h w' hw' hb
theorem run_copy_str {P:Program} {w:World} (dT sT ty:TypeId) (elem:TypeId) (hu:P.underlying dT=some (.slice elem)) (hsz:(P.info? elem).map (·.size)=some 1)
 (dp:Option Addr) (dLen dCap:Nat) (x:ByteArray) (g off:Nat) (cur:List UInt8) (t:TypeId) (hg:Has w g t (u8s cur).toArray) (hdp:0<x.size→dp=some ⟨g,off,none⟩) (hle:x.size≤dLen) (hfit:off+x.size≤cur.length) :
 ∃ w',(Builtin.copy_ #[dT,sT] ty #[.slice dp dLen dCap,.string x]).run P w = .ok (goInt x.size) w'∧Has w' g t (u8s (splice cur off x.data.toList)).toArray∧Below g w w':=by
 have hxl:x.data.toList.length=x.size:=by simp
 rcases Nat.eq_zero_or_pos x.size with h0 | h0
 ·have hr:=Lib.run_copy_empty_string (P:=P) w dT sT ty elem dp dLen dCap x hu (by rw [hsz];rfl) h0
  have hx:x.data.toList=[]:=List.eq_nil_of_length_eq_zero (by rw [hxl];exact h0)
  exact ⟨w,by rw [h0];exact hr,by rw [hx,splice_zero];exact hg,Below.refl _ _⟩
 ·obtain rfl:=hdp h0
  have hr:=Lib.run_copy_row_string (P:=P) w dT sT ty elem g off dLen dCap x _ t hu hsz hg hle (by simpa [u8s_len] using hfit)
  refine ⟨_,hr, ?_,below_setRow (Below.refl g w) (Nat.le_refl _) _⟩
  have he:((u8s cur).toArray.toList.take off++Lib.byteCells x.data.toList++(u8s cur).toArray.toList.drop (off+x.size))=u8s (splice cur off x.data.toList):=by
   rw [← u8s_splice,splice,show (Lib.byteCells x.data.toList)=u8s x.data.toList from rfl,u8s_len,hxl]
   simp
  rw [he]
  exact setRow_heap w g _ _ t (0,0) hg
theorem slice77 (g o:Nat) (h:o<1024) (w:World):(Instr.sliceAt 228 (.pointer (some ⟨g,0,none⟩)) (some (.int .i64 o)) none none).run Tryz.prog w = .ok (.slice (some ⟨g,o,none⟩) (1024-o) (1024-o)) w:=by
 have h1:(0:Int)≤(o:Int):=by omega
 have h2:(o:Int)≤1024:=by omega
 have h3:¬ 1024=o:=by omega
 go_simp
theorem slice77_end (g:Nat) (w:World):(Instr.sliceAt 228 (.pointer (some ⟨g,0,none⟩)) (some (.int .i64 1024)) none none).run Tryz.prog w = .ok (.slice (some ⟨g,0,none⟩) 0 0) w:=by
 go_simp
theorem slice77_any (g o m:Nat) (h:o+m≤1024):∃ dp k,(∀ w,(Instr.sliceAt 228 (.pointer (some ⟨g,0,none⟩)) (some (.int .i64 o)) none none).run Tryz.prog w = .ok (.slice dp k k) w)∧(0<m→dp=some ⟨g,o,none⟩)∧m≤k:=by
 by_cases h1:o<1024
 ·exact ⟨_,_,slice77 g o h1,fun _=>rfl,by omega⟩
 ·obtain rfl:o=1024:=by omega
  exact ⟨_,_,slice77_end g,fun h=>by omega,by omega⟩
theorem BS.of_drop {w:World} {g:Nat} {t:TypeId} {L m:List UInt8} {n:Nat} (h:Has w g t (u8s L).toArray) (o:Nat) (hn:L.length=o+n) (hm:L.drop o=m):BS w (some ⟨g,o,none⟩) n m:=by
 subst hm
 refine ⟨by rw [List.length_drop];omega,fun _=>⟨g,o,rfl,h.lt,fun i v hv=>?_⟩⟩
 rw [h.cell]
 rw [List.getElem?_drop] at hv
 simp [u8s_get,hv]
def eqP:List Value→(Value→World→Prop)→Nat→Value→World→Prop
 | [],R,0,u,w=>R u w
 | [],_,_+1,_,_=>True
 | v :: _,_,0,u,_=>u=v
 | _ :: vs,R,j+1,u,w=>eqP vs R j u w
theorem eqP_stable {R:Value→World→Prop} (hR:∀ u (w w':World),Below w.heap.size w w'→R u w→R u w'):∀ (vs:List Value) j u (w w':World),Below w.heap.size w w'→eqP vs R j u w→eqP vs R j u w'
 | [],0,u,w,w',hb,h=>hR u w w' hb h
 | [],_+1,_,_,_,_,h=>h
 | _ :: _,0,_,_,_,_,h=>h
 | _ :: vs,j+1,u,w,w',hb,h=>eqP_stable hR vs j u w w' hb h
def BV (m:Nat) (l:List UInt8) (u:Value) (w:World):Prop:=∃ A c,u = .slice A m c∧BS w A m l
theorem BV_stable (m:Nat) (l:List UInt8):∀ u (w w':World),Below w.heap.size w w'→BV m l u w→BV m l u w':=fun _ _ _ hb ⟨A,c,e,h⟩=>⟨A,c,e,h.keep hb⟩
theorem page_twoV (n:Nat) (hn:n≤9223372036854775807) (w:World):Calls Tryz.prog 192 #[.int .i64 n] w fun e w'=>∃ u,e = .returned u∧Below w.heap.size w w'∧BV 2 (beK n 2) u w' :=
 (page_two n hn w).mono fun e w' ⟨g,he,hh,hb,_⟩=>⟨_,he,hb,_,_,rfl,by have:=BS.of_has hh;rwa [beK_len] at this⟩
theorem page_fourV (n:Nat) (hn:n≤4294967295) (w:World):Calls Tryz.prog 193 #[.int .i64 n] w fun e w'=>∃ u,e = .returned u∧Below w.heap.size w w'∧BV 4 (beK n 4) u w' :=
 (page_four n hn w).mono fun e w' ⟨A,c,he,hh,hb⟩=>⟨_,he,hb,A,c,by rw [beK_len],by rwa [beK_len] at hh⟩
theorem sizeByte:(Tryz.prog.info? 5).map (·.size)=some 1:=by kernel_rfl
theorem u8s_set (l:List UInt8) (i:Nat) (b:UInt8):(u8s l).toArray.setIfInBounds i (u8v b)=(u8s (l.set i b)).toArray:=by simp [u8s,List.map_set]
theorem u8s_set0 (K:Int) (h0:0≤K) (h1:K≤255):(u8s (List.replicate 1024 0)).toArray.setIfInBounds 4 (.int .u8 K)=(u8s ((List.replicate 1024 0).set 4 (UInt8.ofNat K.toNat))).toArray:=by
 have e:Value.int .u8 K=u8v (UInt8.ofNat K.toNat):=by unfold u8v;rw [toNat_ofNat8];congr 1;omega
 rw [e,u8s_set]
theorem zeros77 : Tryz.zeroCells228 = (u8s (List.replicate 1024 0)).toArray:=by kernel_rfl
def sealS (K L:Int) (cs:List ByteArray):ByteArray:=if (K<1∨5<K∨L<0∨2147483647<L)∨1012<usedN cs then ⟨#[]⟩ else bsOf (sealL K.toNat L.toNat cs)
def sealE (K L:Int) (cs:List ByteArray):Int:=if K<1∨5<K∨L<0∨2147483647<L then 1 else if 1012<usedN cs then 5 else 0
set_option maxRecDepth 100000 in
set_option maxHeartbeats 3200000 in
theorem page_Seal (K L:Int) (A:Option Addr) (n c:Nat) (cs:List ByteArray) (w:World) (h:SS w A n cs) (hn:n≤4194304) (hu:usedN cs≤8388608) :
 Calls Tryz.prog 122 #[.agg #[.int .i64 K,.int .i64 L,.slice A n c]] w fun e w'=>e = .returned (.tuple #[.string (sealS K L cs),.int .i64 (sealE K L cs)])∧Below w.heap.size w w':=by
 have hb0:=Lib.hid (show Below w.heap.size w (w.alloc (.cells #[.int .i64 K,.int .i64 L,.slice A n c] 114)) from (Below.refl _ _).alloc (Nat.le_refl _) _)
 by_cases hk:K<1∨5<K∨L<0∨2147483647<L
 ·have ANS:Hid (Ending.returned (.tuple #[.string ⟨#[]⟩,.int .i64 1]) = .returned (.tuple #[.string (sealS K L cs),.int .i64 (sealE K L cs)])):=by
   show _=_
   rw [sealS,sealE,if_pos (.inl hk),if_pos hk]
  have hk2:K<1∨(1≤K∧5<K)∨(1≤K∧K≤5∧L<0)∨(1≤K∧K≤5∧0≤L∧2147483647<L):=by omega
  clear hk h
  rcases hk2 with k1 | ⟨k1,k2⟩ | ⟨k1,k2,k3⟩ | ⟨k1,k2,k3,k4⟩
  all_goals
   go_enter Tryz.func122,Tryz.ntmps122
   go_wp2_with fail
   go_ret2
   exact ⟨ANS.out,hb0.out⟩
 ·have k1:1≤K:=by omega
  have k2:K≤5:=by omega
  have k3:0≤L:=by omega
  have k4:L≤2147483647:=by omega
  have U:=Lib.hid (fun w1 (hw:Below w.heap.size w w1)=>page_Used A n c cs w1 (h.keep hw) hn hu)
  have HH:=Lib.hid h
  clear h hk
  by_cases hr:1012<usedN cs
  ·have ANS:Hid (Ending.returned (.tuple #[.string ⟨#[]⟩,.int .i64 5]) = .returned (.tuple #[.string (sealS K L cs),.int .i64 (sealE K L cs)])):=by
    have q1:¬ (K<1∨5<K∨L<0∨2147483647<L):=by omega
    show _=_
    rw [sealS,sealE,if_pos (.inr hr),if_neg q1,if_pos hr]
   go_enter Tryz.func122,Tryz.ntmps122
   go_wp2_with (go_at_call 141;refine (U.out _ hb0.out).mono ?_;rintro e w1 ⟨rfl,rfl⟩)
   go_ret2
   exact ⟨ANS.out,hb0.out⟩
  ·go_enter Tryz.func122,Tryz.ntmps122
   go_upto_region 7 with (go_at_call 141;refine (U.out _ hb0.out).mono ?_;rintro e w1 ⟨rfl,rfl⟩)
   have HX:=(Has.new w 114 #[.int .i64 K,.int .i64 L,.slice A n c]).alloc (.cells (Tryz.zeroCells228.setIfInBounds 4 (.int .u8 K)) 228)
   have HG:=Has.new (w.alloc (.cells #[.int .i64 K,.int .i64 L,.slice A n c] 114)) 228 (Tryz.zeroCells228.setIfInBounds 4 (.int .u8 K))
   have hbel:=hb0.out.alloc (by simp) (.cells (Tryz.zeroCells228.setIfInBounds 4 (.int .u8 K)) 228)
   simp only [World.size_alloc] at HG
   generalize ((w.alloc (.cells #[.int .i64 K,.int .i64 L,.slice A n c] 114)).alloc (.cells (Tryz.zeroCells228.setIfInBounds 4 (.int .u8 K)) 228))=W at *
   rw [zeros77,u8s_set0 K (by omega) (by omega)] at HG
   refine wp_region_inv 5 (Cls (W)) (eqP [.slice (some ⟨w.heap.size+1,6,none⟩) 1018 1018,.pointer (some ⟨w.heap.size,2,none⟩),.slice A n c,.int .i64 n] (BV 2 (beK n 2))) (by kernel_rfl) (by kernel_rfl) (by kernel_rfl) (fun _ _ hC hb=>Cls.step hC hb) ?hst (Cls.start _) ?hops ?hend
   case hst=>exact eqP_stable (BV_stable _ _) _
   case hops =>
    obtain ⟨a0,a1,a2⟩:=HX.cells3
    have z1:=HX.lt
    intro us wx hus hC
    obtain ⟨u0,u1,u2,u3,u4,rfl⟩:∃ u0 u1 u2 u3 u4,us=[u0,u1,u2,u3,u4]:=by
     match us,hus with
     | [u0,u1,u2,u3,u4],_=>exact ⟨u0,u1,u2,u3,u4,rfl⟩
    clear hus
    simp only [fillA,Act.put,List.take_succ_cons,List.take_zero,List.setIfInBounds_toArray,List.set_cons_zero,List.set_cons_succ]
    refine ⟨fun h=>?_,fun h=>?_,fun h=>?_,fun h=>?_,fun h=>?_,trivial⟩
    ·(clear h;refine good_plain rfl ?_;go_simp;exact ⟨Below.refl _ _,rfl⟩)
    ·(clear h;refine good_plain rfl ?_;go_simp;exact ⟨Below.refl _ _,rfl⟩)
    ·obtain rfl:=h 1 rfl
     (clear h;refine good_plain rfl ?_;obtain ⟨hc,hf⟩:=hC.facts;go_simp;exact ⟨Below.refl _ _,rfl⟩)
    ·obtain rfl:=h 2 rfl
     (clear h;refine good_plain rfl ?_;go_simp;exact ⟨Below.refl _ _,rfl⟩)
    ·obtain rfl:=h 3 rfl
     clear h;refine good_plain rfl ?_;go_simp
     exact (page_twoV n (by omega) _)
   case hend =>
    intro us wx hus hC
    obtain ⟨u0,u1,u2,u3,u4,rfl⟩:∃ u0 u1 u2 u3 u4,us=[u0,u1,u2,u3,u4]:=by
     match us,hus with
     | [u0,u1,u2,u3,u4],_=>exact ⟨u0,u1,u2,u3,u4,rfl⟩
    clear hus
    intro hall
    obtain ⟨h0,h1,h2,h3,h4,_⟩:=hall
    obtain rfl:=h0
    obtain ⟨A4,c4,rfl,hB⟩:=h4
    have hHG:=HG.belowS hC.bel
    have hHX:=HX.belowS hC.bel
    have hbw:=bel_step hbel hC.bel hbel.size
    clear h1 h2 h3 HG HX hbel
    simp only [fillA,Act.put,List.take_succ_cons,List.take_zero,List.setIfInBounds_toArray,List.set_cons_zero,List.set_cons_succ,List.drop_succ_cons,List.drop_zero]
    refine wpList_copy_BS rfl (.tmp 34) (.tmp 38) 39 39 rfl 5 Tryz.underlying39 sizeByte (some ⟨w.heap.size+1,6,none⟩) 1018 1018 A4 2 c4 rfl rfl _ hB (w.heap.size+1) 6 _ _ hHG (fun _=>rfl) (by omega) (by simp) ?_
    intro w7 HG7 hb7
    have HX7:=hHX.below hb7 (by omega)
    have hbel7:Below w.heap.size w w7:=hbw.trans (hb7.mono (by omega))
    clear hHG hHX hb7 hbw hC hB
    go_wp2_with fail
    have fourL:=Lib.hid (fun w1=>page_fourV L.toNat (by omega) w1)
    have eL:((L.toNat:Nat):Int)=L:=by omega
    rw [eL] at fourL
    refine wp_region_inv 4 (Cls (w7)) (eqP [.slice (some ⟨w.heap.size+1,8,none⟩) 1016 1016,.pointer (some ⟨w.heap.size,1,none⟩),.int .i64 L] (BV 4 (beK L.toNat 4))) (by kernel_rfl) (by kernel_rfl) (by kernel_rfl) (fun _ _ hC hb=>Cls.step hC hb) ?hst (Cls.start _) ?hops ?hend
    case hst=>exact eqP_stable (BV_stable _ _) _
    case hops =>
     obtain ⟨a0,a1,a2⟩:=HX7.cells3
     have z1:=HX7.lt
     intro us wx hus hC
     obtain ⟨u0,u1,u2,u3,rfl⟩:∃ u0 u1 u2 u3,us=[u0,u1,u2,u3]:=by
      match us,hus with
      | [u0,u1,u2,u3],_=>exact ⟨u0,u1,u2,u3,rfl⟩
     clear hus
     simp only [fillA,Act.put,List.take_succ_cons,List.take_zero,List.setIfInBounds_toArray,List.set_cons_zero,List.set_cons_succ]
     refine ⟨fun h=>?_,fun h=>?_,fun h=>?_,fun h=>?_,trivial⟩
     ·(clear h;refine good_plain rfl ?_;go_simp;exact ⟨Below.refl _ _,rfl⟩)
     ·(clear h;refine good_plain rfl ?_;go_simp;exact ⟨Below.refl _ _,rfl⟩)
     ·obtain rfl:=h 1 rfl
      (clear h;refine good_plain rfl ?_;obtain ⟨hc,hf⟩:=hC.facts;go_simp;exact ⟨Below.refl _ _,rfl⟩)
     ·obtain rfl:=h 2 rfl
      clear h;refine good_plain rfl ?_;go_simp
      exact fourL.out _
    case hend =>
     intro us wx hus hC
     obtain ⟨u0,u1,u2,u3,rfl⟩:∃ u0 u1 u2 u3,us=[u0,u1,u2,u3]:=by
      match us,hus with
      | [u0,u1,u2,u3],_=>exact ⟨u0,u1,u2,u3,rfl⟩
     clear hus
     intro hall
     obtain ⟨h0,h1,h2,h3,_⟩:=hall
     obtain rfl:=h0
     obtain ⟨A5,c5,rfl,hB⟩:=h3
     have hHG:=HG7.belowS hC.bel
     have hHX:=HX7.belowS hC.bel
     have hbw:=bel_step hbel7 hC.bel hbel7.size
     clear h1 h2 HG7 HX7 hbel7 fourL eL
     simp only [fillA,Act.put,List.take_succ_cons,List.take_zero,List.setIfInBounds_toArray,List.set_cons_zero,List.set_cons_succ,List.drop_succ_cons,List.drop_zero]
     refine wpList_copy_BS rfl (.tmp 40) (.tmp 43) 39 39 rfl 5 Tryz.underlying39 sizeByte (some ⟨w.heap.size+1,8,none⟩) 1016 1016 A5 4 c5 rfl rfl _ hB (w.heap.size+1) 8 _ _ hHG (fun _=>rfl) (by omega) (by rw [splice_len _ _ _ (by simp [beK_len])];simp) ?_
     intro w8 HG8 hb8
     have HX8:=hHX.below hb8 (by omega)
     have hbel8:Below w.heap.size w w8:=hbw.trans (hb8.mono (by omega))
     clear hHG hHX hb8 hbw hC hB
     rw [← HH.out.1,pageL_start K.toNat L.toNat cs] at HG8
     obtain ⟨a0,a1,a2⟩:=HX8.cells3
     have z1:=HX8.lt
     have HP0:=Lib.hid HG8;have HX0:=Lib.hid HX8;have HB0:=Lib.hid hbel8
     clear HG8 HX8 hbel8
     go_wp2_with fail
     clear a0 a1 a2 z1
     have hr2:usedN cs≤1012:=by omega
     have HR:=Lib.hid hr2
     go_loopw [5,48] (fun v5 v48 wr=>∃ i E:Nat,i≤n∧E=1024-bodyN (cs.take i)∧v48 = .int .i64 i∧v5 = .int .i64 E∧Has wr (w.heap.size+1) 228 (u8s (pageL K.toNat L.toNat cs i)).toArray∧Has wr w.heap.size 114 #[.int .i64 K,.int .i64 L,.slice A n c]∧Below w.heap.size w wr) (fun _ v48 _=>n-(intOf v48).toNat)
     case atStart=>exact ⟨0,1024,Nat.zero_le _,rfl,rfl,rfl,HP0.out,HX0.out,HB0.out⟩
     case round =>
      clear HP0 HX0 HB0
      obtain ⟨i,E,hi,hE,rfl,rfl,HG,HX,hbel⟩:=hrel
      have HG0:=Lib.hid HG;have HX0:=Lib.hid HX;have HB0:=Lib.hid hbel
      clear HG HX hbel
      by_cases h1:i<n
      ·have hl:i<cs.length:=by rw [HH.out.1];exact h1
       obtain ⟨b,off,rfl,hbl,hc⟩:=HH.out.2 (by omega)
       have c0:=hc i cs[i] (by simp [hl])
       obtain ⟨wc,wf⟩:=bcell HB0.out
       have c1:wr.cell? ⟨b,off+i,none⟩=some (.string cs[i]):=(wc _ _ hbl).trans c0
       have z1:b<wr.heap.size:=by have:=HB0.out.size;omega
       have b1:=body_le HR.out (i+1) (by omega)
       have b2:=bodyN_take cs hl
       obtain ⟨E',hE'⟩:∃ E':Nat,E'=1024-bodyN (cs.take (i+1)):=⟨_,rfl⟩
       obtain ⟨o1,ho1⟩:∃ o1:Nat,o1=12+2*i:=⟨_,rfl⟩
       have e1:(12:Int)+2*(i:Int)=(o1:Int):=by omega
       have e2:(E:Int)-(2+(cs[i].size:Int))=(E':Int):=by omega
       have m1:o1≤1022:=by omega
       have m2:E'≤1022:=by omega
       have m3:cs[i].size≤1012:=by omega
       have m4:E'+2+cs[i].size≤1024:=by omega
       have m5:E≤1024:=by omega
       have STEP:=Lib.hid (pageL_step (k:=K.toNat) (l:=L.toNat) HR.out hl)
       have HE':=Lib.hid hE';have HO1:=Lib.hid ho1
       have w1:IntKind.i64.wrap (2*(i:Int))=2*(i:Int):=IntWalk.i64_in _ ⟨by omega,by omega⟩
       have w2:IntKind.i64.wrap (o1:Int)=(o1:Int):=IntWalk.i64_in _ ⟨by omega,by omega⟩
       obtain ⟨E2,hE2⟩:∃ E2:Nat,E2=E'+2:=⟨_,rfl⟩
       have e3:(E':Int)+2=(E2:Int):=by omega
       have HE2:=Lib.hid hE2
       have s1:=slice77 (w.heap.size+1) o1 (by omega)
       have s2:=slice77 (w.heap.size+1) E' (by omega)
       obtain ⟨dp,k3,s3,hdp,hk3⟩:=slice77_any (w.heap.size+1) E2 cs[i].size (by omega)
       clear wc wf c0 hc b1 b2 hE hE' ho1 hE2
       go_wp2_with fail
       have twoE:=Lib.hid (fun w1=>page_twoV E' (by omega) w1)
       have twoC:=Lib.hid (fun w1=>page_twoV cs[i].size (by omega) w1)
       refine wp_region_inv 6 (Cls (wr)) (eqP [.int .i64 i,.int .i64 (2*(i:Int)),.int .i64 o1,.slice (some ⟨w.heap.size+1,o1,none⟩) (1024-o1) (1024-o1),.int .i64 E'] (BV 2 (beK E' 2))) (by kernel_rfl) (by kernel_rfl) (by kernel_rfl) (fun _ _ hC hb=>Cls.step hC hb) ?hst (Cls.start _) ?hops ?hend
       case hst=>exact eqP_stable (BV_stable _ _) _
       case hops =>
        intro us wx hus hC
        obtain ⟨u0,u1,u2,u3,u4,u5,rfl⟩:∃ u0 u1 u2 u3 u4 u5,us=[u0,u1,u2,u3,u4,u5]:=by
         match us,hus with
         | [u0,u1,u2,u3,u4,u5],_=>exact ⟨u0,u1,u2,u3,u4,u5,rfl⟩
        clear hus
        simp only [fillA,Act.put,List.take_succ_cons,List.take_zero,List.setIfInBounds_toArray,List.set_cons_zero,List.set_cons_succ]
        refine ⟨fun h=>?_,fun h=>?_,fun h=>?_,fun h=>?_,fun h=>?_,fun h=>?_,trivial⟩
        ·(clear h;refine good_plain rfl ?_;go_simp;exact ⟨Below.refl _ _,rfl⟩)
        ·obtain rfl:=h 0 rfl
         (clear h;refine good_plain rfl ?_;go_simp;exact ⟨Below.refl _ _,rfl⟩)
        ·obtain rfl:=h 1 rfl
         (clear h;refine good_plain rfl ?_;go_simp;exact ⟨Below.refl _ _,rfl⟩)
        ·obtain rfl:=h 2 rfl
         (clear h;refine good_plain rfl ?_;go_simp;exact ⟨Below.refl _ _,rfl⟩)
        ·(clear h;refine good_plain rfl ?_;go_simp;exact ⟨Below.refl _ _,rfl⟩)
        ·obtain rfl:=h 4 rfl
         clear h;refine good_plain rfl ?_;go_simp
         exact twoE.out _
       case hend =>
        intro us wx hus hC
        obtain ⟨u0,u1,u2,u3,u4,u5,rfl⟩:∃ u0 u1 u2 u3 u4 u5,us=[u0,u1,u2,u3,u4,u5]:=by
         match us,hus with
         | [u0,u1,u2,u3,u4,u5],_=>exact ⟨u0,u1,u2,u3,u4,u5,rfl⟩
        clear hus
        intro hall
        obtain ⟨h0,h1,h2,h3,h4,h5,_⟩:=hall
        obtain rfl:=h3
        obtain ⟨A6,c6,rfl,hB⟩:=h5
        have hHG:=HG0.out.belowS hC.bel
        have hHX:=HX0.out.belowS hC.bel
        have hbw:=bel_step HB0.out hC.bel HB0.out.size
        clear h0 h1 h2 h4 HG0 HX0 HB0 twoE
        simp only [fillA,Act.put,List.take_succ_cons,List.take_zero,List.setIfInBounds_toArray,List.set_cons_zero,List.set_cons_succ,List.drop_succ_cons,List.drop_zero]
        refine wpList_copy_BS rfl (.tmp 61) (.tmp 63) 39 39 rfl 5 Tryz.underlying39 sizeByte (some ⟨w.heap.size+1,o1,none⟩) (1024-o1) (1024-o1) A6 2 c6 rfl rfl _ hB (w.heap.size+1) o1 _ _ hHG (fun _=>rfl) (by omega) (by rw [pageL_len HR.out (by omega)];omega) ?_
        intro w9 HG9 hb9
        have HX9:=Lib.hid (hHX.below hb9 (by omega))
        have HB9:=Lib.hid (show Below w.heap.size w w9 from hbw.trans (hb9.mono (by omega)))
        have HP9:=Lib.hid HG9
        clear hHG hHX hb9 hbw hC hB HG9
        go_wp2_with fail
        refine wp_region_inv 5 (Cls (w9)) (eqP [.int .i64 E',.slice (some ⟨w.heap.size+1,E',none⟩) (1024-E') (1024-E'),.string cs[i],.int .i64 (cs[i].size:Nat)] (BV 2 (beK cs[i].size 2))) (by kernel_rfl) (by kernel_rfl) (by kernel_rfl) (fun _ _ hC hb=>Cls.step hC hb) ?hst (Cls.start _) ?hops ?hend
        case hst=>exact eqP_stable (BV_stable _ _) _
        case hops =>
         intro us wx hus hC
         obtain ⟨u0,u1,u2,u3,u4,rfl⟩:∃ u0 u1 u2 u3 u4,us=[u0,u1,u2,u3,u4]:=by
          match us,hus with
          | [u0,u1,u2,u3,u4],_=>exact ⟨u0,u1,u2,u3,u4,rfl⟩
         clear hus
         simp only [fillA,Act.put,List.take_succ_cons,List.take_zero,List.setIfInBounds_toArray,List.set_cons_zero,List.set_cons_succ]
         refine ⟨fun h=>?_,fun h=>?_,fun h=>?_,fun h=>?_,fun h=>?_,trivial⟩
         ·(clear h;refine good_plain rfl ?_;go_simp;exact ⟨Below.refl _ _,rfl⟩)
         ·obtain rfl:=h 0 rfl
          (clear h;refine good_plain rfl ?_;go_simp;exact ⟨Below.refl _ _,rfl⟩)
         ·(clear h;refine good_plain rfl ?_;go_simp;exact ⟨Below.refl _ _,rfl⟩)
         ·obtain rfl:=h 2 rfl
          (clear h;refine good_plain rfl ?_;go_simp;exact ⟨Below.refl _ _,rfl⟩)
         ·obtain rfl:=h 3 rfl
          clear h;refine good_plain rfl ?_;go_simp
          exact twoC.out _
        case hend =>
         intro us wx hus hC
         obtain ⟨u0,u1,u2,u3,u4,rfl⟩:∃ u0 u1 u2 u3 u4,us=[u0,u1,u2,u3,u4]:=by
          match us,hus with
          | [u0,u1,u2,u3,u4],_=>exact ⟨u0,u1,u2,u3,u4,rfl⟩
         clear hus
         intro hall
         obtain ⟨h0,h1,h2,h3,h4,_⟩:=hall
         obtain rfl:=h1
         obtain ⟨A7,c7,rfl,hB⟩:=h4
         have hHG:=HP9.out.belowS hC.bel
         have hHX:=HX9.out.belowS hC.bel
         have hbw:=bel_step HB9.out hC.bel HB9.out.size
         clear h0 h2 h3 HP9 HX9 HB9 twoC
         simp only [fillA,Act.put,List.take_succ_cons,List.take_zero,List.setIfInBounds_toArray,List.set_cons_zero,List.set_cons_succ,List.drop_succ_cons,List.drop_zero]
         refine wpList_copy_BS rfl (.tmp 66) (.tmp 69) 39 39 rfl 5 Tryz.underlying39 sizeByte (some ⟨w.heap.size+1,E',none⟩) (1024-E') (1024-E') A7 2 c7 rfl rfl _ hB (w.heap.size+1) E' _ _ hHG (fun _=>rfl) (by omega) (by rw [splice_len _ _ _ (by rw [beK_len,pageL_len HR.out (by omega)];omega),pageL_len HR.out (by omega)];omega) ?_
         intro w10 HG10 hb10
         have HX10:=Lib.hid (hHX.below hb10 (by omega))
         have HB10:=Lib.hid (show Below w.heap.size w w10 from hbw.trans (hb10.mono (by omega)))
         have HP10:=Lib.hid HG10
         clear hHG hHX hb10 hbw hC hB HG10
         obtain ⟨w11,hcp,HG11,hb11⟩:=run_copy_str (P:=Tryz.prog) (w:=w10) 39 9 3 5 Tryz.underlying39 sizeByte dp k3 k3 cs[i] (w.heap.size+1) E2 _ _ HP10.out hdp hk3 (by rw [splice_len _ _ _ (by rw [beK_len,splice_len _ _ _ (by rw [beK_len,pageL_len HR.out (by omega)];omega),pageL_len HR.out (by omega)];omega),splice_len _ _ _ (by rw [beK_len,pageL_len HR.out (by omega)];omega),pageL_len HR.out (by omega)];omega)
         have HX11:=Lib.hid (HX10.out.below hb11 (by omega))
         have HB11:=Lib.hid (show Below w.heap.size w w11 from HB10.out.trans (hb11.mono (by omega)))
         have HP11:=Lib.hid HG11
         clear HX10 HB10 HP10 hb11 HG11
         go_wp2_with fail
         have ST:=STEP.out
         rw [← HO1.out,← HE'.out,← HE2.out] at ST
         rw [ST] at HP11
         go_roundw
         case rel=>exact ⟨i+1,E',by omega,HE'.out,by simp,rfl,HP11.out,HX11.out,HB11.out⟩
         case measure=>simp [intOf];omega
      ·obtain rfl:i=n:=by omega
       obtain ⟨x,hx⟩:∃ x,crcN (midL K.toNat L.toNat cs cs.length)=x:=⟨_,rfl⟩
       have x1:=crcN_lt (midL K.toNat L.toNat cs cs.length)
       rw [hx] at x1
       have x2:(0:Int)≤(x:Int):=by omega
       have x3:(x:Int)≤4294967295:=by omega
       have x4:IntKind.i64.wrap (x:Int)=(x:Int):=IntWalk.i64_in _ ⟨by omega,by omega⟩
       have HX:=Lib.hid hx
       have HM:Hid (pageL K.toNat L.toNat cs i=[0,0,0,0]++midL K.toNat L.toNat cs cs.length):=by rw [← HH.out.1];exact rfl
       have LM:=Lib.hid (midL_len (k:=K.toNat) (l:=L.toNat) HR.out (Nat.le_refl cs.length))
       have four:=Lib.hid (fun w1=>page_fourV x (by omega) w1)
       have sum:=Lib.hid (fun w1=>page_Sum (bsOf (midL K.toNat L.toNat cs cs.length)) w1 (by rw [bsOf_size,midL_len HR.out (Nat.le_refl _)];omega))
       have sum2:Hid (∀ w1,Calls Tryz.prog 194 #[.string (bsOf (midL K.toNat L.toNat cs cs.length))] w1 fun e w'=>e = .returned (.int .u32 x)∧w1=w'):=fun w1=>by
        have:=sum.out w1
        rw [bsOf_data,hx] at this;exact this
       clear hx sum x1
       obtain ⟨mid,hmid⟩:∃ m,midL K.toNat L.toNat cs cs.length=m:=⟨_,rfl⟩
       rw [hmid] at HM LM sum2
       have HMID:=Lib.hid hmid
       clear hmid
       go_wp2_with fail
       refine wp_region_inv 6 (Cls (wr)) (eqP [.slice (some ⟨w.heap.size+1,0,none⟩) 1024 1024,.slice (some ⟨w.heap.size+1,4,none⟩) 1020 1020,.string (bsOf mid),.int .u32 x,.int .i64 x] (BV 4 (beK x 4))) (by kernel_rfl) (by kernel_rfl) (by kernel_rfl) (fun _ _ hC hb=>Cls.step hC hb) ?hst (Cls.start _) ?hops ?hend
       case hst=>exact eqP_stable (BV_stable _ _) _
       case hops =>
        intro us wx hus hC
        obtain ⟨u0,u1,u2,u3,u4,u5,rfl⟩:∃ u0 u1 u2 u3 u4 u5,us=[u0,u1,u2,u3,u4,u5]:=by
         match us,hus with
         | [u0,u1,u2,u3,u4,u5],_=>exact ⟨u0,u1,u2,u3,u4,u5,rfl⟩
        clear hus
        simp only [fillA,Act.put,List.take_succ_cons,List.take_zero,List.setIfInBounds_toArray,List.set_cons_zero,List.set_cons_succ]
        refine ⟨fun h=>?_,fun h=>?_,fun h=>?_,fun h=>?_,fun h=>?_,fun h=>?_,trivial⟩
        ·(clear h;refine good_plain rfl ?_;go_simp;exact ⟨Below.refl _ _,rfl⟩)
        ·(clear h;refine good_plain rfl ?_;go_simp;exact ⟨Below.refl _ _,rfl⟩)
        ·obtain rfl:=h 1 rfl
         have hg:=HG0.out.belowS hC.bel
         have hcv:=conv_BS (c:=1020) (BS.of_drop hg 4 (by rw [HM.out,List.length_append,LM.out];first | done | rfl) (by rw [HM.out];first | done | rfl))
         clear h;refine good_plain rfl ?_;go_simp;exact ⟨Below.refl _ _,rfl⟩
        ·obtain rfl:=h 2 rfl
         clear h;refine good_plain rfl ?_;go_simp
         refine (sum2.out _).mono ?_
         rintro e w1 ⟨rfl,rfl⟩
         exact ⟨_,rfl,Below.refl _ _,rfl⟩
        ·obtain rfl:=h 3 rfl
         (clear h;refine good_plain rfl ?_;go_simp;exact ⟨Below.refl _ _,rfl⟩)
        ·obtain rfl:=h 4 rfl
         clear h;refine good_plain rfl ?_;go_simp
         exact four.out _
       case hend =>
        intro us wx hus hC
        obtain ⟨u0,u1,u2,u3,u4,u5,rfl⟩:∃ u0 u1 u2 u3 u4 u5,us=[u0,u1,u2,u3,u4,u5]:=by
         match us,hus with
         | [u0,u1,u2,u3,u4,u5],_=>exact ⟨u0,u1,u2,u3,u4,u5,rfl⟩
        clear hus
        intro hall
        obtain ⟨h0,h1,h2,h3,h4,h5,_⟩:=hall
        obtain rfl:=h0
        obtain ⟨A6,c6,rfl,hB⟩:=h5
        have hHG:=HG0.out.belowS hC.bel
        have hbw:=bel_step HB0.out hC.bel HB0.out.size
        clear h1 h2 h3 h4 HG0 HX0 HB0 four sum2
        simp only [fillA,Act.put,List.take_succ_cons,List.take_zero,List.setIfInBounds_toArray,List.set_cons_zero,List.set_cons_succ,List.drop_succ_cons,List.drop_zero]
        refine wpList_copy_BS rfl (.tmp 77) (.tmp 82) 39 39 rfl 5 Tryz.underlying39 sizeByte (some ⟨w.heap.size+1,0,none⟩) 1024 1024 A6 4 c6 rfl rfl _ hB (w.heap.size+1) 0 _ _ hHG (fun _=>rfl) (by omega) (by rw [HM.out,List.length_append,LM.out];decide) ?_
        intro w9 HG9 hb9
        have HB9:=Lib.hid (show Below w.heap.size w w9 from hbw.trans (hb9.mono (by omega)))
        have hseal:=pageL_sum (k:=K.toNat) (l:=L.toNat) (cs:=cs)
        rw [HX.out,HH.out.1] at hseal
        rw [hseal] at HG9
        have hcv:=conv_BS (c:=1024) (BS.of_drop (n:=1024) HG9 0 (by rw [sealL_len HR.out]) rfl)
        have ANS:Hid (Ending.returned (.tuple #[.string (bsOf (sealL K.toNat L.toNat cs)),.int .i64 0]) = .returned (.tuple #[.string (sealS K L cs),.int .i64 (sealE K L cs)])):=by
         have q1:¬ (K<1∨5<K∨L<0∨2147483647<L):=by omega
         show _=_
         rw [sealS,sealE,if_neg (by omega),if_neg q1,if_neg (by omega)]
        rw [List.drop_zero] at hcv
        clear hHG hb9 hbw hC hB HG9 hseal
        go_wp2_with fail
        go_ret2
        exact ⟨ANS.out,HB9.out⟩
end Go.Proofs.YtjihboddejaelaaGreat
namespace Go.Proofs.YtjihboddejaelaaGreat
open Go.RowKit
open Go.BigFrame
attribute [local go_sem] OpGood goodUpon fillA Act.put
def prP:List (Value→World→Prop)→Nat→Value→World→Prop
 | [],_,_,_=>True
 | R :: _,0,u,w=>R u w
 | _ :: Rs,j+1,u,w=>prP Rs j u w
def Stab (R:Value→World→Prop):Prop:=∀ u (w w':World),Below w.heap.size w w'→R u w→R u w'
def prS:List (Value→World→Prop)→Prop
 | []=>True
 | R :: Rs=>Stab R∧prS Rs
theorem prP_stable:∀ (Rs:List (Value→World→Prop)),prS Rs→∀ j u (w w':World),Below w.heap.size w w'→prP Rs j u w→prP Rs j u w'
 | [],_,_,_,_,_,_,h=>h
 | _ :: _,hs,0,u,w,w',hb,h=>hs.1 u w w' hb h
 | _ :: Rs,hs,j+1,u,w,w',hb,h=>prP_stable Rs hs.2 j u w w' hb h
theorem stab_eq (v:Value):Stab (fun u _=>u=v):=fun _ _ _ _ h=>h
theorem sealRest {k l:Nat} {cs:List ByteArray} (h:usedN cs≤1012):headL k l cs.length++offsL cs cs.length++List.replicate (1012-usedN cs) 0++bodyL cs=midL k l cs cs.length:=by
 have:=used_body cs
 rw [midL,List.take_length,show 1012-2*cs.length-bodyN cs=1012-usedN cs by omega]
theorem made_zero (n:Nat) (w:World):BS (w.alloc (.cells (madeCells #[.int .u8 0] n) 5)) (some ⟨w.heap.size,0,none⟩) n (List.replicate n 0):=by
 have e:madeCells #[Value.int .u8 0] n=(u8s (List.replicate n 0)).toArray:=by
  apply Array.toList_inj.1
  rw [show (u8s (List.replicate n 0)).toArray.toList=List.replicate n (Value.int .u8 0) by simp [u8s,u8v]]
  refine List.eq_replicate_iff.2 ⟨by simp [size_madeCells],fun b hb=>?_⟩
  simp only [madeCells,Array.toList_map,List.mem_map] at hb
  obtain ⟨a,_,rfl⟩:=hb
  show (#[Value.int .u8 0]:Array Value)[a % 1]! = _
  rw [Nat.mod_one];rfl
 rw [e]
 have:=BS.of_has (Has.new w 5 (u8s (List.replicate n 0)).toArray)
 rwa [List.length_replicate] at this
theorem make_bytes (i:Nat) (hi:i≤1012) (w:World):(Instr.makeSlice 39 (.int .i64 i) (.int .i64 i)).run Tryz.prog w = .ok (.slice (some ⟨w.heap.size,0,none⟩) i i) (w.alloc (.cells (madeCells #[.int .u8 0] i) 5)):=by
 obtain ⟨i0,hi0,hz0,hz1,hz2⟩:=info_parts infoByte
 have:=run_make (P:=Tryz.prog) w 39 5 i0 _ Tryz.underlying39 hi0 hz0 .i64 .i64 (i:Int) (i:Int) (by omega) (by omega) (by rw [hz2];omega) (by omega)
 rw [hz1,show (Value.int .u8 0).cells = #[.int .u8 0] from rfl] at this
 simpa using this
end Go.Proofs.YtjihboddejaelaaGreat
