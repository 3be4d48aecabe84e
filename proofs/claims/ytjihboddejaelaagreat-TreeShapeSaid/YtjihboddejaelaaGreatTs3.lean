/-
  Commit, Checkpoint and Open in plain Lean: what is kept; as the cells tell it. No program in sight.
-/
import Derived.Test.YtjihboddejaelaaGreatTs1
import Derived.Test.YtjihboddejaelaaGreatTs2
set_option linter.unusedVariables false
set_option linter.unusedSimpArgs false
set_option maxRecDepth 100000
set_option maxHeartbeats 100000000
namespace Go.Proofs.YtjihboddejaelaaGreat
open Go.RowKit
theorem Wy {l:List UInt8} {k:Nat} (h:(Ap l k).1≠0):(Ap l k).1≤3∧((Ap l k).2.1=0∨64+1028*(Ap l k).2.1≤l.length)∧(Ap l k).2.2<4294967296:=by
 unfold Ap at h ⊢
 split at h
 ·exact absurd rfl h
 ·rename_i h1
  rw [if_neg h1];simp only at h ⊢
  split at h
  ·exact absurd rfl h
  ·rename_i h2
   rw [if_neg h2];dsimp only
   refine ⟨?_, ?_, ?_⟩
   ·exact Classical.byContradiction fun h3=>h2 (.inr (.inl (by omega)))
   ·exact Classical.byContradiction fun h3=>h2 (.inr (.inr (by omega)))
   ·exact EC0 4 _ (by rw [Fh,Fh];omega)
theorem Wq {l:List UInt8} (h:Bj l≠2):Bj l<2∧(Ap l (Bj l)).1≠0∧l.take 16=Hu:=by
 unfold Bj at h ⊢
 split at h
 ·exact absurd rfl h
 ·rename_i h1
  rw [if_neg h1]
  have hm:l.take 16=Hu:=Classical.byContradiction fun h3=>h1 (.inl h3)
  split
  ·rename_i h2
   refine ⟨by omega,fun h3=>?_,hm⟩
   rcases h2 with h2 | h2
   ·exact h1 (.inr ⟨h2,h3⟩)
   ·exact h2.1 h3
  ·rename_i h2
   exact ⟨by omega,fun h3=>h2 (.inl h3),hm⟩
theorem Ja (l:List UInt8) (f i:Nat) (g:Fr) (h:(Eb l f)[i]? = some g):i<f∧g=Lu l i:=by
 unfold Eb at h;rw [List.getElem?_map,Option.map_eq_some_iff] at h;obtain ⟨j,hj,rfl⟩:=h;have hl:=(List.getElem?_eq_some_iff.1 hj).1;rw [List.length_range] at hl;rw [List.getElem?_range hl] at hj
 cases hj
 exact ⟨hl,rfl⟩
theorem Gm (l:List UInt8) (f:Nat):(Eb l f).length=f:=by unfold Eb;rw [List.length_map,List.length_range]
theorem AH0 {l:List UInt8} {f i:Nat} (h:64+1028*f≤l.length) (hi:i<f):(Lu l i).n<4294967296∧(Lu l i).text.size=1024∧Aw l (64+1028*i) 1028=(Lu l i).bytes:=by
 refine ⟨EC0 4 _ (by rw [Fh];omega),by unfold Lu;rw [Bv,Fh];omega, ?_⟩
 unfold Fr.bytes Lu
 rw [Ew,IZ0 _ 4 (by rw [Fh];omega)]
 refine List.ext_getElem? fun j=>?_
 rw [Dx]
 have e4:(Aw l (64+1028*i) 4).length=4:=by rw [Fh];omega
 by_cases h4:j<4
 ·rw [if_pos (by omega),List.getElem?_append_left (by omega),Dx,if_pos h4]
 ·rw [List.getElem?_append_right (by omega),e4,Dx]
  by_cases h5:j<1028
  ·rw [if_pos h5,if_pos (by omega)];congr 1;omega
  ·rw [if_neg h5,if_neg (by omega)]
theorem MA0 {D:Dk} (h:D.ok):(Lg.opened D).ok:=by
 have h0:=h.seen 0;have h1:=h.seen 1;unfold Lg.opened
 split
 ·have hp:(D.seen 0).length / 1024<4294967296:=by omega
  have hD:(Pz D).ok:=Dk.Vx (Dk.BE0 (Dk.Vx (Dk.BZ1 h _ _) _) _ _ _) _
  generalize Pz D=X at hD ⊢
  refine ⟨hD, ?_, ?_, ?_, ?_, ?_, ?_, ?_⟩
  ·exact fun f hf=>by cases hf
  ·exact fun i f hf=>by simp at hf
  ·exact .inr rfl
  ·exact Nat.zero_le _
  ·exact hp
  ·exact Nat.zero_lt_two
  ·exact (by omega:1<4)
 ·rename_i hx
  obtain ⟨s1,s2,s3⟩:=Wq hx;obtain ⟨t1,t2,t3⟩:=Wy s2;have hlen:=Gm (D.seen 1) (Ap (D.seen 1) (Bj (D.seen 1))).2.1
  refine ⟨h,fun f hf=>?_,fun i f hf=>?_, ?_, ?_,t3,s1,Nat.lt_succ_of_le t1⟩
  ·obtain ⟨i,hi⟩:=List.getElem?_of_mem hf
   obtain ⟨hl,rfl⟩:=Ja _ _ _ _ hi
   have:=AH0 (l:=D.seen 1) (f:=(Ap (D.seen 1) (Bj (D.seen 1))).2.1) (by omega) hl
   exact ⟨this.1,this.2.1⟩
  ·obtain ⟨hl,rfl⟩:=Ja _ _ _ _ hf
   exact (AH0 (l:=D.seen 1) (f:=(Ap (D.seen 1) (Bj (D.seen 1))).2.1) (by omega) hl).2.2
  ·rcases t2 with t2 | t2
   ·refine .inr (List.eq_nil_of_length_eq_zero ?_)
    show (Eb _ _).length=0
    rw [hlen,t2]
   ·refine .inl ?_
    show 64+1028*(Eb _ _).length≤_
    rw [hlen];omega
  ·show _≤(Eb _ _).length
   rw [hlen];exact Nat.le_refl _
def Io (R:Rw) (n:Int) (t:ByteArray) (p:Nat):Nat→Rw
 | 0=>R
 | 1=>R.app n t
 | 2=>{ R.app n t with D:=(R.app n t).D.sync 1 }
 | _=>({ R.app n t with D:=(R.app n t).D.sync 1 }:Rw).tell (R.app n t).nf p
def Cm (R:Rw) (n:Int) (t:ByteArray) (p:Nat):Nat→Int
 | 0=>R.UC0 n t
 | 1=>(R.app n t).D.Py 1
 | _=>({ R.app n t with D:=(R.app n t).D.sync 1 }:Rw).Gl (R.app n t).nf p
def Rw.Eu (R:Rw) (n:Int) (t:ByteArray) (p:Int):Rw :=
 if 1≤p∧p≤65536 then
  let C:=Io R n t p.toNat (upTo (Cm R n t p.toNat) 3).1
  if (upTo (Cm R n t p.toNat) 3).2=0 then { C with np:=p.toNat,kf:=C.nf,kp:=p.toNat,f2:=C.f1 } else C
 else R
def Rw.Gp (R:Rw) (n:Int) (t:ByteArray) (p:Int):Int:=if 1≤p∧p≤65536 then (upTo (Cm R n t p.toNat) 3).2 else 1
theorem DD1 (Es:Nat→Int):upTo Es 3=if Es 0≠0 then (1,Es 0) else if Es 1≠0 then (2,Es 1) else (3,Es 2):=by
 by_cases h0:Es 0=0
 ·rw [if_neg (by simpa using h0)]
  have e1:upTo Es 1=(1,0):=by rw [Fg rfl];show (0+1,Es 0)=_;rw [h0]
  by_cases h1:Es 1=0
  ·rw [if_neg (by simpa using h1)]
   have e2:upTo Es 2=(2,0):=by rw [Fg e1,h1]
   rw [Fg e2]
  ·rw [if_pos h1]
   have e2:upTo Es 2=(2,Es 1):=Fg e1
   rw [Ua (i:=2) (by rw [e2];exact h1) (by omega),e2]
 ·rw [if_pos h0]
  have e1:upTo Es 1=(1,Es 0):=Fg rfl
  rw [Ua (i:=1) (by rw [e1];exact h0) (by omega),e1]
theorem EN1 {L:Lg} {R:Rw} (h1:L.D=R.D) (h2:L.fs.length=R.nf) (h3:L.pages=R.np) (h4:∀ x,Bc L.fs x=R.f1 x) (h5:L.kept=R.kf) (h6:L.pages=R.kp) (h7:∀ x,Bc (L.fs.take L.kept) x=R.f2 x) (h8:L.slot=R.slot) (h9:L.number=R.number):L.rw=R:=by
 obtain ⟨D,nf,np,f1,kf,kp,f2,sl,nu⟩:=R;simp only at h1 h2 h3 h4 h5 h6 h7 h8 h9;unfold Lg.rw
 rw [h1,h2,h3,show (fun x=>Bc L.fs x)=f1 from funext h4,show (fun x=>Bc (L.fs.take L.kept) x)=f2 from funext h7,h5,← h3,h6,h8,h9]
theorem Iw (D:Dk):D.Ec=0↔¬ D.stops:=by
 unfold Dk.Ec
 split
 ·rename_i h;exact ⟨fun h2=>(by cases h2),fun h2=>absurd h h2⟩
 ·rename_i h;exact ⟨fun _=>h,fun _=>rfl⟩
theorem CZ0 {D:Dk} {f a:Nat} {s:ByteArray} (h:f<2∧a+s.size≤67108864):D.Pn f a s=D.Ec:=if_pos (Qm.2 h)
theorem Zg {D:Dk} {f:Nat} (h:f<2):D.Py f=D.Ec:=if_pos (by omega)
theorem CI1 {L:Lg} (h:L.ok) (n:Int) (t:ByteArray):(L.append n t).rw=L.rw.app n t∧L.Dq n t=L.rw.UC0 n t:=by
 unfold Lg.append Rw.app Lg.Dq Rw.UC0;have e1:L.rw.at_=L.at_:=rfl;have e2:L.NS0 n t↔Pq n t:=Iff.rfl;simp only [e1,e2]
 by_cases hA:Pq n t
 ·by_cases hr:L.at_+1028≤67108864
  ·obtain ⟨a1,a2,a3⟩:=hA
   have hz:(Fr.bytes ⟨n.toNat,t⟩).length=1028:=Fr.Gx _ a3
   have hw:L.rw.D.Pn 1 L.at_ (frB n t)=L.D.Ec:=CZ0 (f:=1) ⟨by omega,by unfold frB;rw [Bv,hz];exact hr⟩
   have ha:Pq n t:=⟨a1,a2,a3⟩;have hc:Pq n t∧L.at_+1028≤67108864:=⟨ha,hr⟩;rw [if_pos hc,if_pos hc,if_pos ha,if_pos hr,if_pos ha,if_pos hr,hw]
   refine ⟨?_,rfl⟩
   by_cases hs:L.D.stops
   ·rw [if_pos hs,if_neg (by rw [Iw];exact fun h2=>h2 hs)];rfl
   ·rw [if_neg hs,if_pos ((Iw _).2 hs)]
    refine EN1 rfl ?_ rfl (fun x=>?_) rfl rfl (fun x=>?_) rfl rfl
    ·show (L.fs++[_]).length=L.fs.length+1
     rw [List.length_append];rfl
    ·show Bc (L.fs++[_]) x=if x=n then L.fs.length+1 else Bc L.fs x
     rw [Nv];have e3:((n.toNat:Nat):Int)=n:=Int.toNat_of_nonneg a1
     show (if ((n.toNat:Nat):Int)=x then _ else _)=_
     rw [e3]
     by_cases hx:n=x
     ·rw [if_pos hx,if_pos hx.symm]
     ·rw [if_neg hx,if_neg (fun e=>hx e.symm)]
    ·show Bc ((L.fs++[_]).take L.kept) x=Bc (L.fs.take L.kept) x
     rw [List.take_append_of_le_length h.kept]
  ·rw [if_neg (fun h2=>hr h2.2),if_neg (fun h2=>hr h2.2),if_pos hA,if_neg hr,if_pos hA,if_neg hr];exact ⟨rfl,rfl⟩
 ·rw [if_neg (fun h2=>hA h2.1),if_neg (fun h2=>hA h2.1),if_neg hA,if_neg hA];exact ⟨rfl,rfl⟩
theorem PY0 {L:Lg} (h:L.ok) (f p:Nat):L.rw.Xt f p=L.D.Ec :=
 CZ0 (f:=1) ⟨by omega,by rw [Bv,Ed];omega⟩
theorem AH1 {L:Lg} (h:L.ok) (f p:Nat):L.Gl f p=L.rw.Gl f p:=by
 unfold Lg.Gl Rw.Gl;rw [PY0 h]
 by_cases hs:L.D.stops
 ·rw [if_pos hs,if_pos (by unfold Dk.Ec;rw [if_pos hs];decide)];unfold Dk.Ec;rw [if_pos hs]
 ·rw [if_neg hs,if_neg (by rw [(Iw _).2 hs];simp)]
  exact (Zg (D:=L.Bi f p) (f:=1) (by omega)).symm
theorem CS1 {L:Lg} (h:L.ok) (f p:Nat):(L.tell f p).rw=if L.Gl f p=0 then { L.rw.tell f p with np:=p,kf:=f,kp:=p,f2:=fun x=>Bc (L.fs.take f) x } else L.rw.tell f p:=by
 have hW:=PY0 h f p
 have e3:(L.rw.Bi f p).Py 1=(L.Bi f p).Ec:=Zg (f:=1) (by omega)
 by_cases hs:L.D.stops
 ·have e2:L.D.Ec=2:=if_pos hs
  have a1:L.Gl f p=2:=if_pos hs
  have a2:L.tell f p={ L with D:=L.Bi f p }:=if_pos hs
  have a3:L.rw.tell f p={ L.rw with D:=L.rw.Bi f p }:=if_pos (by rw [hW,e2];decide)
  rw [a1,a2,a3,if_neg (by decide)];rfl
 ·have e0:=(Iw _).2 hs
  have n0:¬ (L.rw.Xt f p≠0):=by rw [hW,e0];simp
  have a1:L.Gl f p=(L.Bi f p).Ec:=if_neg hs
  by_cases h2:(L.Bi f p).stops
  ·have e2:(L.Bi f p).Ec=2:=if_pos h2
   have a2:L.tell f p={ L with D:=(L.Bi f p).sync 1 }:=(if_neg hs).trans (if_pos h2)
   have a3:L.rw.tell f p={ L.rw with D:=(L.rw.Bi f p).sync 1 }:=(if_neg n0).trans (if_pos (by rw [e3,e2];decide))
   rw [a1,a2,a3,e2,if_neg (by decide)];rfl
  ·have e2:(L.Bi f p).Ec=0:=(Iw _).2 h2
   have a2:L.tell f p={ L with D:=(L.Bi f p).sync 1,slot:=1-L.slot,number:=L.number % 3+1,kept:=f,pages:=p }:=(if_neg hs).trans (if_neg h2)
   have a3:L.rw.tell f p={ L.rw with D:=(L.rw.Bi f p).sync 1,slot:=1-L.rw.slot,number:=L.rw.number % 3+1 }:=(if_neg n0).trans (if_neg (by rw [e3,e2];simp))
   rw [a1,a2,a3,e2,if_pos rfl];rfl
theorem KJ0 (R:Rw) (f p:Nat):(R.tell f p).nf=R.nf∧(R.tell f p).f1=R.f1∧(R.tell f p).kp=R.kp∧(R.tell f p).np=R.np∧(R.tell f p).kf=R.kf∧(R.tell f p).f2=R.f2:=by
 unfold Rw.tell;split
 ·exact ⟨rfl,rfl,rfl,rfl,rfl,rfl⟩
 ·split <;> exact ⟨rfl,rfl,rfl,rfl,rfl,rfl⟩
theorem XS0 {L:Lg} (h:L.ok) (n:Int) (t:ByteArray) (p:Int):(L.Eu n t p).rw=L.rw.Eu n t p∧L.Gp n t p=L.rw.Gp n t p:=by
 obtain ⟨a1,a2⟩:=CI1 h n t
 by_cases hp:1≤p∧p≤65536
 ·have r1:L.rw.Eu n t p=if (upTo (Cm L.rw n t p.toNat) 3).2=0 then { Io L.rw n t p.toNat (upTo (Cm L.rw n t p.toNat) 3).1 with np:=p.toNat,kf:=(Io L.rw n t p.toNat (upTo (Cm L.rw n t p.toNat) 3).1).nf,kp:=p.toNat,f2:=(Io L.rw n t p.toNat (upTo (Cm L.rw n t p.toNat) 3).1).f1 } else Io L.rw n t p.toNat (upTo (Cm L.rw n t p.toNat) 3).1:=if_pos hp
  have r2:L.rw.Gp n t p=(upTo (Cm L.rw n t p.toNat) 3).2:=if_pos hp;have c0:Cm L.rw n t p.toNat 0=L.Dq n t:=a2.symm
  have aD:(L.rw.app n t).D=(L.append n t).D:=by rw [← a1];rfl
  have c1:Cm L.rw n t p.toNat 1=(L.append n t).D.Ec:=by
   show (L.rw.app n t).D.Py 1=_
   rw [aD];exact Zg (f:=1) (by omega)
  rw [r1,r2]
  by_cases h0:L.Dq n t=0
  ·by_cases hs:(L.append n t).D.stops
   ·have e2:(L.append n t).D.Ec=2:=if_pos hs
    have u:upTo (Cm L.rw n t p.toNat) 3=(2,2):=by rw [DD1,c0,c1,if_neg (fun h2=>h2 h0),e2,if_pos (by decide)]
    have l1:L.Eu n t p={ L.append n t with D:=(L.append n t).D.sync 1 }:=(if_pos hp).trans ((if_pos h0).trans (if_pos hs))
    have l2:L.Gp n t p=2:=(if_pos hp).trans ((if_pos h0).trans (if_pos hs));rw [u,l1,l2]
    refine ⟨?_,rfl⟩
    rw [if_neg (by decide)]
    show ({ L.append n t with D:=(L.append n t).D.sync 1 }:Lg).rw={ L.rw.app n t with D:=(L.rw.app n t).D.sync 1 }
    rw [← a1];rfl
   ·have e2:(L.append n t).D.Ec=0:=(Iw _).2 hs
    have u:upTo (Cm L.rw n t p.toNat) 3=(3,Cm L.rw n t p.toNat 2):=by rw [DD1,c0,c1,if_neg (fun h2=>h2 h0),e2,if_neg (fun h2=>h2 rfl)]
    have l1:L.Eu n t p=({ L.append n t with D:=(L.append n t).D.sync 1 }:Lg).tell (L.append n t).fs.length p.toNat:=(if_pos hp).trans ((if_pos h0).trans (if_neg hs))
    have l2:L.Gp n t p=({ L.append n t with D:=(L.append n t).D.sync 1 }:Lg).Gl (L.append n t).fs.length p.toNat:=(if_pos hp).trans ((if_pos h0).trans (if_neg hs))
    have hA:({ L.append n t with D:=(L.append n t).D.sync 1 }:Lg).ok:=(Om h n t).SH0 1 (by omega)
    have hR:({ L.rw.app n t with D:=(L.rw.app n t).D.sync 1 }:Rw)=({ L.append n t with D:=(L.append n t).D.sync 1 }:Lg).rw:=by rw [← a1];rfl
    have hn:(L.rw.app n t).nf=(L.append n t).fs.length:=by rw [← a1];rfl
    have c2:Cm L.rw n t p.toNat 2=({ L.append n t with D:=(L.append n t).D.sync 1 }:Lg).rw.Gl (L.append n t).fs.length p.toNat:=by
     show ({ L.rw.app n t with D:=(L.rw.app n t).D.sync 1 }:Rw).Gl (L.rw.app n t).nf p.toNat=_
     rw [hR,hn]
    have c3:Io L.rw n t p.toNat 3=({ L.append n t with D:=(L.append n t).D.sync 1 }:Lg).rw.tell (L.append n t).fs.length p.toNat:=by
     show ({ L.rw.app n t with D:=(L.rw.app n t).D.sync 1 }:Rw).tell (L.rw.app n t).nf p.toNat=_
     rw [hR,hn]
    have hf:({ L.append n t with D:=(L.append n t).D.sync 1 }:Lg).fs=(L.append n t).fs:=rfl
    rw [u,l1,l2]
    generalize ({ L.append n t with D:=(L.append n t).D.sync 1 }:Lg)=M at *
    have b1:=CS1 hA (L.append n t).fs.length p.toNat;have b2:=AH1 hA (L.append n t).fs.length p.toNat;dsimp only;rw [c2,c3,← b2]
    refine ⟨?_,rfl⟩
    rw [b1]
    by_cases ht:M.Gl (L.append n t).fs.length p.toNat=0
    ·rw [if_pos ht,if_pos ht]
     obtain ⟨s1,s2,_⟩:=KJ0 M.rw (L.append n t).fs.length p.toNat;dsimp only
     have q1:(fun x=>Bc (M.fs.take (L.append n t).fs.length) x)=M.rw.f1:=funext fun x=>by
      show Bc (M.fs.take (L.append n t).fs.length) x=Bc M.fs x
      rw [← hf,List.take_length]
     have q2:(L.append n t).fs.length=M.rw.nf:=by rw [← hf];rfl
     rw [s1,s2,q1,← q2]
    ·rw [if_neg ht,if_neg ht]
  ·have u:upTo (Cm L.rw n t p.toNat) 3=(1,L.Dq n t):=by rw [DD1,c0,if_pos h0]
   have l1:L.Eu n t p=L.append n t:=(if_pos hp).trans (if_neg h0);have l2:L.Gp n t p=L.Dq n t:=(if_pos hp).trans (if_neg h0);rw [u,l1,l2]
   refine ⟨?_,rfl⟩
   dsimp only;rw [if_neg h0];exact a1
 ·exact ⟨(congrArg Lg.rw (if_neg hp)).trans (if_neg hp).symm,(if_neg hp).trans (if_neg hp).symm⟩
def Rw.at1 (R:Rw) (n:Int):Int:=64+((R.f1 n:Int)-1)*1028+4
def Rw.Gy (R:Rw) (n:Int):ByteArray :=
 if 0≤n∧n≤2147483647 then
  if R.f1 n≠0 then R.D.Gy 1 (R.at1 n) 1024
  else if R.D.Si 0≠0 then ⟨#[]⟩ else if R.D.Wl 0 / 1024≤n then ⟨#[]⟩ else R.D.Gy 0 (n*1024) 1024
 else ⟨#[]⟩
def Rw.Ej (R:Rw) (n:Int):Int :=
 if 0≤n∧n≤2147483647 then
  if R.f1 n≠0 then R.D.Ej 1 (R.at1 n) 1024
  else if R.D.Si 0≠0 then R.D.Si 0 else if R.D.Wl 0 / 1024≤n then 7 else R.D.Ej 0 (n*1024) 1024
 else 1
theorem TU0 {L:Lg} (h:L.ok) {i:Nat} {f:Fr} (hf:L.fs[i]? = some f):Aw (L.D.seen 1) (64+1028*i+4) 1024=f.text.data.toList:=by
 have h1:=h.lies i f hf;have h2:=(h.frames f (List.mem_of_getElem? hf)).2
 rw [← Zf (L.D.seen 1) (64+1028*i) 1028 4 1024 (by omega),h1]
 unfold Aw Fr.bytes
 rw [List.drop_append_of_le_length (by rw [Az];omega),List.drop_of_length_le (by rw [Az];omega),List.nil_append,List.take_of_length_le (by rw [Array.length_toList];show f.text.size≤_;omega)]
theorem FM1 {L:Lg} (h:L.ok) (hd:L.D.down=false) {n:Int} (hn:Bc L.fs n≠0):L.rw.D.Ej 1 (L.rw.at1 n) 1024=0∧L.rw.D.Gy 1 (L.rw.at1 n) 1024=((L.fs[Bc L.fs n-1]?).map (·.text)).getD ⟨#[]⟩:=by
 obtain ⟨f,hf,_⟩:=FM0 L.fs n hn;have h1:=h.there hf;have h2:=h.disk.seen 1
 have e1:L.rw.at1 n=(64+1028*(Bc L.fs n-1)+4:Nat):=by
  unfold Rw.at1
  show 64+((Bc L.fs n:Int)-1)*1028+4=_
  omega
 have hF:Lr 1 (64+1028*(Bc L.fs n-1)+4:Nat) 1024:=by unfold Lr;omega
 rw [e1,hf];unfold Dk.Ej Dk.Gy;rw [if_pos hF]
 constructor
 ·show (if L.D.down=true then 2 else if ((64+1028*(Bc L.fs n-1)+4:Nat):Int)+1024≤((L.D.seen 1).length:Int) then 0 else 3)=(0:Int)
  rw [if_neg (by rw [hd];decide),if_pos (by omega)]
 ·rw [if_pos ⟨hF,hd,by show ((64+1028*(Bc L.fs n-1)+4:Nat):Int)+1024≤((L.D.seen 1).length:Int);omega⟩]
  show bsOf (Aw (L.D.seen 1) (64+1028*(Bc L.fs n-1)+4) 1024)=f.text
  rw [TU0 h hf,IE0]
theorem XZ0 {L:Lg} (h:L.ok) (hd:L.D.down=false) (n:Int):L.Gy n=L.rw.Gy n∧L.Ej n=L.rw.Ej n:=by
 by_cases hn:0≤n∧n≤2147483647
 ·have hn2:0≤n∧n≤2147483647∧L.D.down=false:=⟨hn.1,hn.2,hd⟩
  have nd:¬ (L.D.down=true):=by rw [hd];decide
  by_cases hl:Bc L.fs n≠0
  ·obtain ⟨r1,r2⟩:=FM1 h hd hl
   have hl2:L.rw.f1 n≠0:=hl;exact ⟨((if_pos hn2).trans (if_pos hl)).trans (r2.symm.trans ((if_pos hn).trans (if_pos hl2)).symm),((if_pos hn).trans ((if_neg nd).trans (if_pos hl))).trans (r1.symm.trans ((if_pos hn).trans (if_pos hl2)).symm)⟩
  ·have h0:=h.disk.seen 0
   have hl2:¬ L.rw.f1 n≠0:=hl
   have s1:L.rw.D.Si 0=0:=(if_pos (show (0:Int)≤0∧(0:Int)<2 by omega)).trans (if_neg nd)
   have s1':¬ (L.rw.D.Si 0≠0):=fun h2=>h2 s1
   have s2:L.rw.D.Wl 0=((L.D.seen 0).length:Int):=if_pos ⟨by omega,by omega,hd⟩
   by_cases hx:n<((L.D.seen 0).length / 1024:Nat)
   ·have hF:Lr 0 (n*1024) 1024:=by unfold Lr;omega
    have hx2:¬ (L.rw.D.Wl 0 / 1024≤n):=by rw [s2];omega
    have hle:n*1024+1024≤((L.D.seen 0).length:Int):=by omega
    have q1:L.rw.D.Ej 0 (n*1024) 1024=0:=(if_pos hF).trans ((if_neg nd).trans (if_pos hle))
    have q2:L.rw.D.Gy 0 (n*1024) 1024=bsOf (Aw (L.D.seen 0) (1024*n.toNat) 1024):=by
     refine (if_pos ⟨hF,hd,hle⟩).trans ?_
     show bsOf (((L.D.seen 0).drop (n*1024).toNat).take 1024)=bsOf (((L.D.seen 0).drop (1024*n.toNat)).take 1024)
     rw [show (n*1024).toNat=1024*n.toNat by omega]
    exact ⟨((if_pos hn2).trans ((if_neg hl).trans (if_pos hx))).trans (q2.symm.trans ((if_pos hn).trans ((if_neg hl2).trans ((if_neg s1').trans (if_neg hx2)))).symm),
     ((if_pos hn).trans ((if_neg nd).trans ((if_neg hl).trans (if_pos hx)))).trans (q1.symm.trans ((if_pos hn).trans ((if_neg hl2).trans ((if_neg s1').trans (if_neg hx2)))).symm)⟩
   ·have hx2:L.rw.D.Wl 0 / 1024≤n:=by rw [s2];omega
    exact ⟨((if_pos hn2).trans ((if_neg hl).trans (if_neg hx))).trans ((if_pos hn).trans ((if_neg hl2).trans ((if_neg s1').trans (if_pos hx2)))).symm,
     ((if_pos hn).trans ((if_neg nd).trans ((if_neg hl).trans (if_neg hx)))).trans ((if_pos hn).trans ((if_neg hl2).trans ((if_neg s1').trans (if_pos hx2)))).symm⟩
 ·exact ⟨(if_neg (fun h2=>hn ⟨h2.1,h2.2.1⟩)).trans (if_neg hn).symm,(if_neg hn).trans (if_neg hn).symm⟩
theorem Ro (keep:List Int):∀ (ws:List Ch) (i f:Nat) (l:List UInt8),(∀ c∈ws,c.file≠f)→Gv keep ws i f l=l
 | [],i,f,l,_=>rfl
 | c :: ws,i,f,l,h=>by
   rw [Gv,show Jq c (CJ1 keep i) l f=l from if_neg (h c (List.mem_cons_self ..))]
   exact Ro keep ws (i+1) f l fun d hd=>h d (List.mem_cons_of_mem _ hd)
theorem CX1 {l:List UInt8} {sl N f p:Nat} (hm:l.take 16=Hu) (hsl:sl<2) (hN:1≤N∧N≤3) (hs:Ap l sl=(N,f,p)) (ho:(Ap l (1-sl)).1=0∨(Ap l (1-sl)).1 % 3+1=N):Bj l=sl:=by
 have hg:(Ap l (1-sl)).1≠0→(Ap l (1-sl)).1≤3:=fun h=>(Wy h).1
 have hs1:(Ap l sl).1=N:=by rw [hs]
 unfold Bj
 obtain rfl | rfl:sl=0∨sl=1:=by omega
 ·rw [show 1-0=1 from rfl] at ho hg
  rw [hs1,if_neg (fun h=>h.elim (fun h2=>h2 hm) (fun h2=>by omega)),if_neg (fun h=>by omega)]
 ·rw [show 1-1=0 from rfl] at ho hg
  rw [hs1,if_neg (fun h=>h.elim (fun h2=>h2 hm) (fun h2=>by omega)),if_pos (by omega)]
theorem YC0:∀ (k n:Nat),n<256 ^ k→unK (beK n k)=n
 | 0,n,h=>by have:n=0:=by simpa using h
             subst this;rfl
 | k+1,n,h=>by
   rw [beK,IL0,YC0 k (n / 256) (by rw [Nat.pow_succ] at h;omega),UInt8.toNat_ofNat']
   omega
theorem BA0 {n:Nat} (h:n<4294967296):unK (beK n 4)=n:=YC0 4 n (by omega)
theorem BV0 {n:Nat} (r:List UInt8) (hn:n<4294967296):unK ((beK n 4++r).take 4)=n:=by
 rw [List.take_append_of_le_length (by rw [Az];omega),List.take_of_length_le (by rw [Az];omega)]
 exact BA0 hn
theorem Ub {l:List UInt8} {k n f p:Nat} (hl:40+24*k≤l.length) (ht:Aw l (16+24*k) 24=slotL n f p) (hn:1≤n∧n≤3) (hf:f<4294967296) (hp:p<4294967296) (hff:f=0∨64+1028*f≤l.length):Ap l k=(n,f,p):=by
 have e1:unK ((slotL n f p).take 4)=n:=by
  unfold slotL;rw [List.append_assoc,List.append_assoc,List.append_assoc];exact BV0 _ (by omega)
 have e2:unK (Aw (slotL n f p) 4 4)=f:=by
  unfold Aw slotL
  rw [List.append_assoc,List.append_assoc,List.append_assoc,List.drop_append_of_le_length (by rw [Az];omega),List.drop_of_length_le (by rw [Az];omega),List.nil_append]
  exact BV0 _ hf
 have e3:unK (Aw (slotL n f p) 8 4)=p:=by
  have h1:slotL n f p=(beK n 4++beK f 4)++(beK p 4++(beK n 4++beK f 4++beK p 4)):=by unfold slotL;simp [List.append_assoc]
  have h2:(beK n 4++beK f 4).length=8:=by simp [Az]
  unfold Aw
  rw [h1,List.drop_append_of_le_length (by omega),List.drop_of_length_le (by omega),List.nil_append]
  exact BV0 _ hp
 rw [CM0 (by omega) ht e1 e2 e3,if_pos ⟨rfl,hn.1,hn.2,hff⟩]
def zt (l:List UInt8) (B:Nat):List UInt8:=(Dy l B).take B
theorem Ue (l:List UInt8) (n i:Nat):(Dy l n)[i]? = if i<l.length then l[i]? else if i<n then some 0 else none:=by
 unfold Dy;rw [List.getElem?_append]
 split
 ·rfl
 ·rename_i h
  rw [List.getElem?_replicate]
  by_cases h2:i<n
  ·rw [if_pos h2,if_pos (by omega)]
  ·rw [if_neg h2,if_neg (by omega)]
theorem AJ0 (l:List UInt8) (B i:Nat):(zt l B)[i]? = if i<B then (if i<l.length then l[i]? else some 0) else none:=by
 unfold zt;rw [List.getElem?_take]
 split
 ·rw [Ue]
  split
  ·rfl
  ·first
    | rfl
    | (rename_i h1 h2;rw [if_pos h1])
 ·rfl
theorem CD1 {l t:List UInt8} {a B:Nat} (ha:B≤a):zt (EN0 l a t) B=zt l B:=by
 refine List.ext_getElem? fun i=>?_
 rw [AJ0,AJ0]
 split
 ·rename_i hi
  have hl:=Ox l a t
  by_cases h0:i<(EN0 l a t).length
  ·rw [if_pos h0,Un,if_neg (by omega),Ue]
   by_cases h1:i<l.length
   ·rw [if_pos h1,if_pos h1]
   ·rw [if_neg h1,if_neg h1,if_pos (by omega)]
  ·rw [if_neg h0,if_neg (by omega)]
 ·rfl
theorem VC0 {c:Ch} {how:Int} {f:Nat} {l:List UInt8} {B:Nat} (hc:c.file=f→c.cut=false∧B≤c.at_):zt (Jq c how l f) B=zt l B∧l.length≤(Jq c how l f).length:=by
 unfold Jq
 split
 ·rename_i hf
  obtain ⟨h1,h2⟩:=hc hf
  have hp:∀ t:List UInt8,l.length≤(EN0 l c.at_ t).length:=fun t=>by rw [Ox];omega
  split
  ·unfold Ch.done
   rw [if_neg (by rw [h1];decide)]
   exact ⟨CD1 h2,hp _⟩
  ·split
   ·unfold Ch.half
    rw [if_neg (by rw [h1];decide)]
    unfold Ch.done
    rw [if_neg (by show ¬ c.cut=true;rw [h1];decide)]
    exact ⟨CD1 h2,hp _⟩
   ·exact ⟨rfl,Nat.le_refl _⟩
 ·exact ⟨rfl,Nat.le_refl _⟩
theorem Yh (keep:List Int):∀ (ws:List Ch) (i f:Nat) (l:List UInt8) (B:Nat),(∀ c∈ws,c.file=f→c.cut=false∧B≤c.at_)→zt (Gv keep ws i f l) B=zt l B∧l.length≤(Gv keep ws i f l).length
 | [],i,f,l,B,_=>⟨rfl,Nat.le_refl _⟩
 | c :: ws,i,f,l,B,h=>by
   obtain ⟨h1,h2⟩:=VC0 (how:=CJ1 keep i) (l:=l) (h c (List.mem_cons_self ..))
   obtain ⟨h3,h4⟩:=Yh keep ws (i+1) f (Jq c (CJ1 keep i) l f) B (fun d hd=>h d (List.mem_cons_of_mem _ hd))
   exact ⟨h3.trans h1,Nat.le_trans h2 h4⟩
theorem Yb {l:List UInt8} {B a n:Nat} (hn:a+n≤B) (hl:a+n≤l.length):Aw (zt l B) a n=Aw l a n:=by
 refine List.ext_getElem? fun i=>?_
 rw [Dx,Dx]
 split
 ·rw [AJ0,if_pos (by omega),if_pos (by omega)]
 ·rfl
def Lt (t:List UInt8) (N:Nat):Prop:=unK ((t.drop 12).take 4)=0∨(unK ((t.drop 12).take 4)≤3∧unK ((t.drop 12).take 4) % 3+1=N)
theorem XM0 (N:Nat):Lt (List.replicate 24 0) N:=.inl (by decide)
theorem SP0 (n f p:Nat):(slotL n f p).drop 12=beK n 4++beK f 4++beK p 4:=by
 unfold slotL
 rw [List.drop_append_of_le_length (by simp [Az]),List.drop_of_length_le (by simp [Az]),List.nil_append]
theorem JR0 {n f p N:Nat} (n2:n≤3) (n3:n % 3+1=N):Lt (slotL n f p) N:=by
 have e:unK (((slotL n f p).drop 12).take 4)=n:=by
  rw [SP0,List.append_assoc,List.take_append_of_le_length (by rw [Az];omega),List.take_of_length_le (by rw [Az];omega),BA0 (by omega)]
 exact .inr (by rw [e];exact ⟨n2,n3⟩)
theorem IJ0 (n f p:Nat):(slotL n f p).take 4=beK n 4:=by
 unfold slotL
 rw [List.append_assoc,List.append_assoc,List.append_assoc,List.take_append_of_le_length (by rw [Az];omega),List.take_of_length_le (by rw [Az];omega)]
theorem RB0 {l:List UInt8} {k N:Nat} (h:Lt (zt l (40+24*k) |>.drop (16+24*k)) N):(Ap l k).1=0∨(Ap l k).1 % 3+1=N:=by
 by_cases hz:(Ap l k).1=0
 ·exact .inl hz
 ·have hl:¬ l.length<40+24*k:=fun h2=>hz (by rw [GI0 h2])
  have ht:Aw l (16+24*k) 24=(zt l (40+24*k)).drop (16+24*k):=by
   rw [← Yb (B:=40+24*k) (by omega) (by omega)]
   unfold Aw;rw [List.take_of_length_le];rw [List.length_drop];unfold zt;rw [List.length_take];omega
  rw [← ht] at h
  have h1:(Ap l k).1=unK (((Aw l (16+24*k) 24).drop 12).take 4):=by
   unfold Ap at hz ⊢;rw [if_neg hl] at hz ⊢;dsimp only at hz ⊢
   split
   ·rename_i h2;rw [if_pos h2] at hz;exact absurd rfl hz
   ·rename_i h2
    have heq:(Aw l (16+24*k) 24).take 12=(Aw l (16+24*k) 24).drop 12:=Classical.byContradiction fun h3=>h2 (.inl h3)
    show unK ((Aw l (16+24*k) 24).take 4)=_
    rw [← heq,List.take_take];rfl
  rcases h with h | ⟨n2,n3⟩
  ·rw [h1,h] at hz
   exact absurd rfl hz
  ·right
   rw [h1];exact n3
structure Safe (L:Lg):Prop where
 ok:L.ok
 mark:L.D.l1.take 16=Hu
 num:1≤L.number∧L.number≤3
 slot:Aw L.D.l1 (16+24*L.slot) 24=slotL L.number L.kept L.pages
 old:Lt ((zt L.D.l1 (40+24*(1-L.slot))).drop (16+24*(1-L.slot))) L.number
 top:L.kept=0∨64+1028*L.kept≤L.D.l1.length
 lies:∀ i f,i<L.kept→L.fs[i]? = some f→Aw L.D.l1 (64+1028*i) 1028=f.bytes
 waits1:∀ c∈L.D.waits,c.file=1→c.cut=false∧64+1028*L.kept≤c.at_
 waits0:∀ c∈L.D.waits,c.file≠0
theorem ED1 {l l':List UInt8} {B b:Nat} (h:zt l' B=zt l B) (hb:b≤B):zt l' b=zt l b:=by
 refine List.ext_getElem? fun i=>?_
 have h1:(zt l' B)[i]? = (zt l B)[i]? := by rw [h]
 rw [AJ0,AJ0] at h1;rw [AJ0,AJ0]
 by_cases hi:i<b
 ·have hB:i<B:=by omega
  rw [if_pos hB,if_pos hB] at h1;rw [if_pos hi,if_pos hi];exact h1
 ·rw [if_neg hi,if_neg hi]
theorem Nr {l l':List UInt8} {B a n:Nat} (h:zt l' B=zt l B) (hl:l.length≤l'.length) (hn:a+n≤B) (hln:a+n≤l.length):Aw l' a n=Aw l a n:=by
 rw [← Yb hn (Nat.le_trans hln hl),h,Yb hn hln]
theorem Qv {l:List UInt8} {i:Nat} {f:Fr} (h:Aw l (64+1028*i) 1028=f.bytes) (hn:f.n<4294967296) (ht:f.text.size=1024):Lu l i=f:=by
 obtain ⟨n,t⟩:=f;have ht2:t.size=1024:=ht;unfold Lu
 have e1:Aw l (64+1028*i) 4=beK n 4:=by
  have:=Zf l (64+1028*i) 1028 0 4 (by omega)
  rw [Nat.add_zero,h] at this;rw [← this];unfold Aw Fr.bytes
  rw [List.drop_zero,List.take_append_of_le_length (by rw [Az];omega),List.take_of_length_le (by rw [Az];omega)]
 have e2:Aw l (64+1028*i+4) 1024=t.data.toList:=by
  rw [← Zf l (64+1028*i) 1028 4 1024 (by omega),h]
  unfold Aw Fr.bytes
  rw [List.drop_append_of_le_length (by rw [Az];omega),List.drop_of_length_le (by rw [Az];omega),List.nil_append,List.take_of_length_le (by rw [Array.length_toList];show t.size≤_;omega)]
 rw [e1,e2,BA0 hn,IE0]
theorem Qz {L:Lg} (h:Safe L) (keep:List Int) :
 (L.D.Fj keep).l0=L.D.l0∧Bj (L.D.Fj keep).l1=L.slot∧Ap (L.D.Fj keep).l1 L.slot=(L.number,L.kept,L.pages)∧Eb (L.D.Fj keep).l1 L.kept=L.fs.take L.kept:=by
 obtain ⟨z,hl⟩:=Yh keep L.D.waits 0 1 L.D.l1 (64+1028*L.kept) h.waits1;have e0:(L.D.Fj keep).l0=L.D.l0:=Ro keep L.D.waits 0 0 L.D.l0 h.waits0;have e1:(L.D.Fj keep).l1=Gv keep L.D.waits 0 1 L.D.l1:=rfl;rw [e1]
 generalize Gv keep L.D.waits 0 1 L.D.l1=l' at *
 have hs2:=h.ok.slot;have hlen:=h.ok.len;have hkl:=h.ok.kept
 have hsl:=Gj h.slot (Ed _ _ _) (by omega)
 have h16:16≤L.D.l1.length:=by omega
 have em:l'.take 16=Hu:=by
  have:=Nr (a:=0) (n:=16) z hl (by omega) (by omega)
  rw [Fe,Fe] at this;rw [this];exact h.mark
 have es:Ap l' L.slot=(L.number,L.kept,L.pages) :=
  Ub (by omega) ((Nr z hl (by omega) (by omega)).trans h.slot) h.num (by omega) h.ok.pages (by
   rcases h.top with h2 | h2
   ·exact .inl h2
   ·exact .inr (by omega))
 have eo:=RB0 (l:=l') (k:=1-L.slot) (N:=L.number) (by rw [ED1 z (by omega)];exact h.old)
 refine ⟨e0,CX1 em hs2 h.num es eo,es, ?_⟩
 refine List.ext_getElem? fun i=>?_
 rw [List.getElem?_take]
 by_cases hi:i<L.kept
 ·have hil:i<L.fs.length:=by omega
  have hf:=List.getElem?_eq_getElem hil;have hb:=h.lies i _ hi hf;have hfr:=h.ok.frames _ (List.getElem_mem hil)
  have hfull:=Gj hb (Fr.Gx _ hfr.2) (by omega)
  have hb2:=(Nr z hl (by omega) hfull).trans hb
  have hfa:=Qv hb2 hfr.1 hfr.2;rw [if_pos hi,hf]
  have hli:i<(Eb l' L.kept).length:=by rw [Gm];exact hi
  have hg:=List.getElem?_eq_getElem hli;rw [hg];rw [(Ja _ _ _ _ hg).2,hfa]
 ·rw [if_neg hi,List.getElem?_eq_none (by rw [Gm];omega)]
theorem Zm (D:Dk):D.turn.l0=D.l0∧D.turn.l1=D.l1∧D.turn.waits=D.waits:=by
 unfold Dk.turn;split <;> exact ⟨rfl,rfl,rfl⟩
theorem Iz (D:Dk) (c:Ch):(D.change c).l0=D.l0∧(D.change c).l1=D.l1∧((D.change c).waits=D.waits∨(D.change c).waits=D.waits++[c]):=by
 obtain ⟨h1,h2,h3⟩:=Zm D;unfold Dk.change
 split
 ·exact ⟨h1,h2,.inl h3⟩
 ·exact ⟨h1,h2,.inr rfl⟩
theorem MW0 {L:Lg} (h:Safe L) (n:Int) (t:ByteArray):Safe (L.append n t):=by
 have hok:=Om h.ok n t
 by_cases hf:L.NS0 n t∧L.at_+1028≤67108864
 ·have e:L.append n t={ L with D:=L.D.write 1 L.at_ (bsOf (Fr.bytes ⟨n.toNat,t⟩)),fs:=if L.D.stops then L.fs else L.fs++[⟨n.toNat,t⟩] }:=if_pos hf
  rw [e] at hok ⊢
  have hD:(L.D.write 1 L.at_ (bsOf (Fr.bytes ⟨n.toNat,t⟩))).l0=L.D.l0∧(L.D.write 1 L.at_ (bsOf (Fr.bytes ⟨n.toNat,t⟩))).l1=L.D.l1∧∀ c∈(L.D.write 1 L.at_ (bsOf (Fr.bytes ⟨n.toNat,t⟩))).waits,c∈L.D.waits∨(c.file=1∧c.cut=false∧c.at_=L.at_):=by
   unfold Dk.write
   split
   ·obtain ⟨h1,h2,h3⟩:=Iz L.D ⟨(1:Int).toNat,(L.at_:Int).toNat,bsOf (Fr.bytes ⟨n.toNat,t⟩),false⟩
    refine ⟨h1,h2,fun c hc=>?_⟩
    rcases h3 with h3 | h3
    ·rw [h3] at hc;exact .inl hc
    ·rw [h3] at hc
     rcases List.mem_append.1 hc with hc | hc
     ·exact .inl hc
     ·rw [List.mem_singleton.1 hc];exact .inr ⟨rfl,rfl,Int.toNat_natCast _⟩
   ·exact ⟨rfl,rfl,fun c hc=>.inl hc⟩
  have hkl:=h.ok.kept;have hat:L.at_=64+1028*L.fs.length:=rfl;obtain ⟨d0,d1,dw⟩:=hD
  generalize L.D.write 1 L.at_ (bsOf (Fr.bytes ⟨n.toNat,t⟩))=X at *
  refine ⟨hok, ?_,h.num, ?_, ?_, ?_,fun i f hi hf2=>?_,fun c hc h1=>?_,fun c hc h0=>?_⟩
  ·show X.l1.take 16=_;rw [d1];exact h.mark
  ·show Aw X.l1 _ _=_;rw [d1];exact h.slot
  ·show Lt ((zt X.l1 _).drop _) _;rw [d1];exact h.old
  ·show _∨_≤X.l1.length;rw [d1];exact h.top
  ·show Aw X.l1 _ _=_
   rw [d1]
   refine h.lies i f hi ?_
   have hi2:i<L.kept:=hi;dsimp only at hf2
   split at hf2
   ·exact hf2
   ·rw [List.getElem?_append_left (by omega)] at hf2;exact hf2
  ·rcases dw c hc with h2 | ⟨h2,h3,h4⟩
   ·exact h.waits1 c h2 h1
   ·exact ⟨h3,by show 64+1028*L.kept≤_;rw [h4];omega⟩
  ·rcases dw c hc with h2 | ⟨h2,_,_⟩
   ·exact h.waits0 c h2 h0
   ·omega
 ·have e:L.append n t=L:=if_neg hf
  rw [e];exact h
theorem CE0 {L:Lg} (h:Safe L):Safe L.back:=by
 have hok:=CU1 h.ok
 refine ⟨hok,h.mark,h.num,h.slot,h.old,h.top,fun i f hi hf=>h.lies i f hi ?_,h.waits1,h.waits0⟩
 have hf2:(L.fs.take L.kept)[i]? = some f:=hf;have hi2:i<L.kept:=hi;rw [List.getElem?_take,if_pos hi2] at hf2;exact hf2
theorem Ut:∀ (ws:List Ch) (i f:Nat) (l:List UInt8),Gv [1] ws i f l=Ou ws f l
 | [],i,f,l=>rfl
 | c :: ws,i,f,l=>by
   have hh:CJ1 [1] i=1:=by unfold CJ1;rw [if_neg (by decide),List.length_singleton,Nat.mod_one];rfl
   rw [Gv,Ou,hh,Ut ws (i+1) f]
   congr 1
theorem JX0 {L:Lg} (h:Safe L) {l':List UInt8} (z:zt l' (64+1028*L.kept)=zt L.D.l1 (64+1028*L.kept)) (hl:L.D.l1.length≤l'.length) :
 l'.take 16=Hu∧Aw l' (16+24*L.slot) 24=slotL L.number L.kept L.pages∧Lt ((zt l' (40+24*(1-L.slot))).drop (16+24*(1-L.slot))) L.number∧(L.kept=0∨64+1028*L.kept≤l'.length)∧(∀ (i:Nat) (f:Fr),i<L.kept→L.fs[i]? = some f→Aw l' (64+1028*i) 1028=f.bytes):=by
 have hs2:=h.ok.slot;have hkl:=h.ok.kept
 have hsl:=Gj h.slot (Ed _ _ _) (by omega)
 refine ⟨?_,(Nr z hl (by omega) (by omega)).trans h.slot,by rw [ED1 z (by omega)];exact h.old,h.top.imp id (fun h2=>by omega),fun i f hi hf=>?_⟩
 ·have:=Nr (a:=0) (n:=16) z hl (by omega) (by omega)
  rw [Fe,Fe] at this;rw [this];exact h.mark
 ·have hfr:=h.ok.frames f (List.mem_of_getElem? hf)
  have hb:=h.lies i f hi hf
  have hfull:=Gj hb (Fr.Gx _ hfr.2) (by omega)
  exact (Nr z hl (by omega) hfull).trans hb
structure Gz (L:Lg):Prop where
 safe:Safe L
 waits:L.D.waits=[]
theorem FN0 {L:Lg} (h:Safe L) (hs:¬ L.D.stops):(L.D.sync 1).l0=L.D.l0∧(L.D.sync 1).l1=L.D.seen 1∧(L.D.sync 1).waits=[]:=by
 have e:L.D.sync 1=L.D.Qg 1:=by
  unfold Dk.sync
  rw [if_pos (by decide),if_neg hs];rfl
 rw [e]
 refine ⟨rfl,rfl, ?_⟩
 show L.D.waits.filter (fun c=>decide (c.file≠1))=[]
 rw [List.filter_eq_nil_iff];intro c hc;have h0:=h.waits0 c hc;have h1:=(h.ok.disk.waits c hc).1
 have:c.file=1:=by omega
 simp [this]
theorem VI0 {L:Lg} (h:Safe L) (hs:¬ L.D.stops):Gz ({ L with D:=L.D.sync 1 }:Lg):=by
 obtain ⟨s0,s1,s2⟩:=FN0 h hs
 have hok:({ L with D:=L.D.sync 1 }:Lg).ok:=h.ok.same (Dk.Vx h.ok.disk 1) (EE0 L.D 1 (by omega) 1 (by omega))
 obtain ⟨z,hl⟩:=Yh [1] L.D.waits 0 1 L.D.l1 (64+1028*L.kept) h.waits1;rw [Ut] at z hl;have hseen:Ou L.D.waits 1 L.D.l1=L.D.seen 1:=rfl;rw [hseen] at z hl;obtain ⟨f1,f2,f3,f4,f5⟩:=JX0 h z hl
 generalize L.D.sync 1=X at *
 rw [← s1] at f1 f2 f3 f4 f5
 refine ⟨⟨hok,f1,h.num,f2,f3,f4,f5,fun c hc=>?_,fun c hc=>?_⟩,s2⟩
 ·have hc2:c∈X.waits:=hc
  rw [s2] at hc2;cases hc2
 ·have hc2:c∈X.waits:=hc
  rw [s2] at hc2;cases hc2
theorem Ir {L:Lg} (h:Gz L) {i:Nat} {f:Fr} (hf:L.fs[i]? = some f):Aw L.D.l1 (64+1028*i) 1028=f.bytes:=by
 have h1:=h.safe.ok.lies i f hf
 have e:L.D.seen 1=L.D.l1:=by
  unfold Dk.seen;rw [h.waits];rfl
 rw [e] at h1;exact h1
def Ot (L:Lg) (f p:Nat):List UInt8:=EN0 L.D.l1 (16+24*(1-L.slot)) (slotL (L.number % 3+1) f p)
theorem KO0 {L:Lg} (h:Gz L) (h64:64≤L.D.l1.length) (f p:Nat) :
 (Ot L f p).length=L.D.l1.length∧(Ot L f p).take 16=Hu∧Aw (Ot L f p) (16+24*(1-L.slot)) 24=slotL (L.number % 3+1) f p ∧
 Aw (Ot L f p) (16+24*L.slot) 24=slotL L.number L.kept L.pages∧∀ a n,64≤a→a+n≤L.D.l1.length→Aw (Ot L f p) a n=Aw L.D.l1 a n:=by
 have hs:=h.safe.ok.slot;have hz:=Ed (L.number % 3+1) f p;unfold Ot
 refine ⟨by rw [Ox,hz];omega, ?_, ?_, ?_,fun a n ha hn=>Jm hn (.inr (by rw [hz];omega))⟩
 ·have:=Jm (l:=L.D.l1) (a:=16+24*(1-L.slot)) (t:=slotL (L.number % 3+1) f p) (b:=0) (n:=16) (by omega) (.inl (by omega))
  rw [Fe,Fe] at this;rw [this];exact h.safe.mark
 ·have:=Qa L.D.l1 (16+24*(1-L.slot)) (slotL (L.number % 3+1) f p)
  rw [hz] at this;exact this
 ·rw [Jm (by omega) (by rw [hz];omega)]
  exact h.safe.slot
theorem NM0 {L:Lg} (h:Gz L) (k:Nat):L.D.seen k=L.D.lasts k:=by
 unfold Dk.seen;rw [h.waits];rfl
theorem GC0 {L:Lg} (h:Gz L) (f p:Nat) (h1:¬ L.D.stops) (h2:¬ (L.Bi f p).stops) :
 ((L.Bi f p).sync 1).l0=L.D.l0∧((L.Bi f p).sync 1).l1=Ot L f p∧((L.Bi f p).sync 1).waits=[]:=by
 have hs:=h.safe.ok.slot
 have hfit:(1<2∧16+24*(1-L.slot)+(bsOf (slotL (L.number % 3+1) f p)).size≤67108864):=⟨by omega,by rw [Bv,Ed];omega⟩
 have hD:L.Bi f p=L.D.change ⟨(1:Int).toNat,((16+24*(1-L.slot):Nat):Int).toNat,bsOf (slotL (L.number % 3+1) f p),false⟩:=if_pos (Qm.2 hfit)
 have hW:(L.Bi f p).waits=[⟨(1:Int).toNat,((16+24*(1-L.slot):Nat):Int).toNat,bsOf (slotL (L.number % 3+1) f p),false⟩]:=by
  rw [hD];unfold Dk.change;rw [if_neg h1]
  show L.D.waits++[_]=_
  rw [h.waits];rfl
 have hL:(L.Bi f p).l0=L.D.l0:=by rw [hD];exact (Iz _ _).1
 have hS:(L.Bi f p).seen 1=Ot L f p:=by
  have:=Zx L.D 1 (16+24*(1-L.slot)) (bsOf (slotL (L.number % 3+1) f p)) 1;rw [if_pos ⟨hfit,h1,rfl⟩,Ew,NM0 h] at this;exact this
 have e:(L.Bi f p).sync 1=(L.Bi f p).Qg 1:=by
  unfold Dk.sync
  rw [if_pos (by decide),if_neg h2];rfl
 rw [e]
 refine ⟨hL,hS, ?_⟩
 show (L.Bi f p).waits.filter (fun c=>decide (c.file≠1))=[]
 rw [hW]
 rfl
theorem KF0 {L:Lg} (h:Gz L) (h64:64≤L.D.l1.length) {f p:Nat} (hf:f≤L.fs.length) (hp:p<4294967296) (h1:¬ L.D.stops) (h2:¬ (L.Bi f p).stops):Gz (L.tell f p):=by
 obtain ⟨t1,t2,t3,t4,t5⟩:=KO0 h h64 f p;obtain ⟨d0,d1,d2⟩:=GC0 h f p h1 h2;have hok:=h.safe.ok.tell hf hp;have hn:=h.safe.num;have hs:=h.safe.ok.slot;have hlen:=h.safe.ok.len
 have e:L.tell f p={ L with D:=(L.Bi f p).sync 1,slot:=1-L.slot,number:=L.number % 3+1,kept:=f,pages:=p }:=(if_neg h1).trans (if_neg h2)
 rw [e] at hok ⊢
 generalize (L.Bi f p).sync 1=X at *
 have hfl:∀ (i:Nat) (g:Fr),L.fs[i]? = some g→64+1028*i+1028≤L.D.l1.length:=fun i g hg=>Gj (Ir h hg) (Fr.Gx _ (h.safe.ok.frames g (List.mem_of_getElem? hg)).2) (by omega)
 refine ⟨⟨hok, ?_,⟨by show 1≤L.number % 3+1;omega,by show L.number % 3+1≤3;omega⟩, ?_, ?_, ?_,fun i g hi hg=>?_,fun c hc=>?_,fun c hc=>?_⟩,d2⟩
 ·show X.l1.take 16=_;rw [d1];exact t2
 ·show Aw X.l1 _ _=_;rw [d1];exact t3
 ·show Lt ((zt X.l1 (40+24*(1-(1-L.slot)))).drop (16+24*(1-(1-L.slot)))) (L.number % 3+1)
  rw [d1,show 1-(1-L.slot)=L.slot by omega]
  have ez:(zt (Ot L f p) (40+24*L.slot)).drop (16+24*L.slot)=Aw (Ot L f p) (16+24*L.slot) 24:=by
   rw [← Yb (B:=40+24*L.slot) (by omega) (by omega)]
   unfold Aw;rw [List.take_of_length_le];rw [List.length_drop];unfold zt;rw [List.length_take];omega
  rw [ez,t4];have hk:=h.safe.ok.kept;exact JR0 hn.2 rfl
 ·show f=0∨64+1028*f≤X.l1.length
  rw [d1,t1]
  rcases Nat.eq_zero_or_pos f with h0 | h0
  ·exact .inl h0
  ·have hfi:f-1<L.fs.length:=by omega
   have:=hfl (f-1) _ (List.getElem?_eq_getElem hfi)
   exact .inr (by omega)
 ·show Aw X.l1 _ _=_
  have hg2:L.fs[i]? = some g:=hg
  rw [d1,t5 _ _ (by omega) (hfl i g hg2)]
  exact Ir h hg2
 ·have hc2:c∈X.waits:=hc
  rw [d2] at hc2;cases hc2
 ·have hc2:c∈X.waits:=hc
  rw [d2] at hc2;cases hc2
theorem OO0 {l:List UInt8} {k:Nat} (h:40+24*k≤l.length):(zt l (40+24*k)).drop (16+24*k)=Aw l (16+24*k) 24:=by
 rw [← Yb (B:=40+24*k) (by omega) (by omega)]
 unfold Aw;rw [List.take_of_length_le];rw [List.length_drop];unfold zt;rw [List.length_take];omega
theorem YV0 {t:List UInt8} {N:Nat} (hN:1≤N∧N≤3) (h:Lt t N):unK (t.drop 12 |>.take 4)≠N % 3+1:=by
 rcases h with h | ⟨n2,n3⟩
 ·rw [h];omega
 ·omega
def Gt (L:Lg) (f p:Nat):List UInt8:=EN0 L.D.l1 (16+24*(1-L.slot)) ((slotL (L.number % 3+1) f p).take 12)
theorem XQ0 {L:Lg} (h:Gz L) (h64:64≤L.D.l1.length) (f p:Nat):(Ap (Gt L f p) (1-L.slot)).1=0:=by
 have hs:=h.safe.ok.slot;have hn:=h.safe.num
 have hz:((slotL (L.number % 3+1) f p).take 12).length=12:=by rw [List.length_take,Ed];omega
 have hlen:(Gt L f p).length=L.D.l1.length:=by unfold Gt;rw [Ox,hz];omega
 have hold:=h.safe.old
 rw [OO0 (by omega)] at hold
 have ho:=YV0 hn hold
 refine Classical.byContradiction fun hc=>?_
 unfold Ap at hc
 rw [if_neg (by omega)] at hc
 dsimp only at hc
 split at hc
 ·exact hc rfl
 ·rename_i hcond
  have heq:(Aw (Gt L f p) (16+24*(1-L.slot)) 24).take 12=(Aw (Gt L f p) (16+24*(1-L.slot)) 24).drop 12:=Classical.byContradiction fun h3=>hcond (.inl h3)
  have e1:(Aw (Gt L f p) (16+24*(1-L.slot)) 24).take 12=(slotL (L.number % 3+1) f p).take 12:=by
   have:=Qa L.D.l1 (16+24*(1-L.slot)) ((slotL (L.number % 3+1) f p).take 12);rw [hz] at this
   refine Eq.trans ?_ this
   unfold Gt Aw;rw [List.take_take];rfl
  have e2:(Aw (Gt L f p) (16+24*(1-L.slot)) 24).drop 12=(Aw L.D.l1 (16+24*(1-L.slot)) 24).drop 12:=by
   refine List.ext_getElem? fun i=>?_
   rw [List.getElem?_drop,List.getElem?_drop,Dx,Dx]
   split
   ·unfold Gt
    rw [Un,if_neg (by rw [hz];omega),Vu _ _ _ (by omega)]
   ·rfl
  rw [e1,e2] at heq
  have h4:=congrArg (fun x:List UInt8=>unK (x.take 4)) heq
  rw [List.take_take,show min 4 12=4 from rfl,IJ0,BA0 (by omega)] at h4
  exact ho h4.symm
theorem RU0 {L:Lg} (h:Gz L) (h64:64≤L.D.l1.length) (f p:Nat):Bj (Gt L f p)=L.slot∧Ap (Gt L f p) L.slot=(L.number,L.kept,L.pages)∧Eb (Gt L f p) L.kept=L.fs.take L.kept:=by
 have hs:=h.safe.ok.slot;have hlenL:=h.safe.ok.len;have hkl:=h.safe.ok.kept
 have hz:((slotL (L.number % 3+1) f p).take 12).length=12:=by rw [List.length_take,Ed];omega
 have hlen:(Gt L f p).length=L.D.l1.length:=by unfold Gt;rw [Ox,hz];omega
 have hpart:∀ a n,a+n≤L.D.l1.length→(a+n≤16+24*(1-L.slot)∨28+24*(1-L.slot)≤a)→Aw (Gt L f p) a n=Aw L.D.l1 a n:=fun a n h1 h2=>by
  unfold Gt
  exact Jm h1 (h2.imp id (fun h3=>by rw [hz];omega))
 have hsl:=Gj h.safe.slot (Ed _ _ _) (by omega)
 have em:(Gt L f p).take 16=Hu:=by
  have:=hpart 0 16 (by omega) (.inl (by omega))
  rw [Fe,Fe] at this;rw [this];exact h.safe.mark
 have es:Ap (Gt L f p) L.slot=(L.number,L.kept,L.pages) :=
  Ub (by omega) ((hpart _ 24 (by omega) (by omega)).trans h.safe.slot) h.safe.num (by omega) h.safe.ok.pages (by
   rcases h.safe.top with h2 | h2
   ·exact .inl h2
   ·exact .inr (by omega))
 refine ⟨CX1 em hs h.safe.num es (.inl (XQ0 h h64 f p)),es, ?_⟩
 refine List.ext_getElem? fun i=>?_
 rw [List.getElem?_take]
 by_cases hi:i<L.kept
 ·have hil:i<L.fs.length:=by omega
  have hf:=List.getElem?_eq_getElem hil;have hb:=Ir h hf;have hfr:=h.safe.ok.frames _ (List.getElem_mem hil)
  have hfull:=Gj hb (Fr.Gx _ hfr.2) (by omega)
  have hfa:=Qv ((hpart _ 1028 hfull (.inr (by omega))).trans hb) hfr.1 hfr.2
  rw [if_pos hi,hf]
  have hli:i<(Eb (Gt L f p) L.kept).length:=by rw [Gm];exact hi
  have hg:=List.getElem?_eq_getElem hli;rw [hg,(Ja _ _ _ _ hg).2,hfa]
 ·rw [if_neg hi,List.getElem?_eq_none (by rw [Gm];omega)]
theorem RQ0 {L:Lg} (h:Gz L) (h64:64≤L.D.l1.length) {f p:Nat} (hf:f≤L.fs.length) (hp:p<4294967296):Bj (Ot L f p)=1-L.slot∧Ap (Ot L f p) (1-L.slot)=(L.number % 3+1,f,p)∧Eb (Ot L f p) f=L.fs.take f:=by
 obtain ⟨t1,t2,t3,t4,t5⟩:=KO0 h h64 f p;have hn:=h.safe.num;have hs:=h.safe.ok.slot;have hlen:=h.safe.ok.len;have hk:=h.safe.ok.kept
 have hfl:∀ (i:Nat) (g:Fr),L.fs[i]? = some g→64+1028*i+1028≤L.D.l1.length:=fun i g hg=>Gj (Ir h hg) (Fr.Gx _ (h.safe.ok.frames g (List.mem_of_getElem? hg)).2) (by omega)
 have es:Ap (Ot L f p) (1-L.slot)=(L.number % 3+1,f,p):=Ub (by omega) t3 (by omega) (by omega) hp (by
  rcases Nat.eq_zero_or_pos f with h0 | h0
  ·exact .inl h0
  ·have hfi:f-1<L.fs.length:=by omega
   have:=hfl (f-1) _ (List.getElem?_eq_getElem hfi)
   exact .inr (by omega))
 have eo:=RB0 (l:=Ot L f p) (k:=L.slot) (N:=L.number % 3+1) (by
  rw [OO0 (by omega),t4]
  exact JR0 hn.2 rfl)
 refine ⟨CX1 t2 (by omega) (by omega) es (by rw [show 1-(1-L.slot)=L.slot by omega];exact eo),es, ?_⟩
 refine List.ext_getElem? fun i=>?_
 rw [List.getElem?_take]
 by_cases hi:i<f
 ·have hil:i<L.fs.length:=by omega
  have hfi:=List.getElem?_eq_getElem hil;have hfr:=h.safe.ok.frames _ (List.getElem_mem hil)
  have hfa:=Qv ((t5 _ 1028 (by omega) (hfl i _ hfi)).trans (Ir h hfi)) hfr.1 hfr.2
  rw [if_pos hi,hfi]
  have hli:i<(Eb (Ot L f p) f).length:=by rw [Gm];exact hi
  have hg:=List.getElem?_eq_getElem hli;rw [hg,(Ja _ _ _ _ hg).2,hfa]
 ·rw [if_neg hi,List.getElem?_eq_none (by rw [Gm];omega)]
def zpg (l:List UInt8) (n:Nat):List UInt8:=Aw (zt l 6144) (1024*n) 1024
def AB1:ByteArray:=bsOf (List.replicate 1024 0)
def EA1 (l0:List UInt8) (fs:List Fr) (n:Nat) (o:Option ByteArray):Prop :=
 if Bc fs n≠0 then (fs[Bc fs n-1]?).map (·.text)=o
 else bsOf (zpg l0 n)=o.getD AB1∧(o≠none→1024*n+1024≤l0.length)
def Holds (l0:List UInt8) (fs:List Fr) (K:Nat→Option ByteArray):Prop:=∀ n,n<6→EA1 l0 fs n (K n)
theorem DC1 {L:Lg} (h:Gz L) (h64:64≤L.D.l1.length) {f p:Nat} (hf:f≤L.fs.length) (hp:p<4294967296) (how:Int) :
 (Bj (Jq ⟨1,16+24*(1-L.slot),bsOf (slotL (L.number % 3+1) f p),false⟩ how L.D.l1 1)=L.slot∧Ap (Jq ⟨1,16+24*(1-L.slot),bsOf (slotL (L.number % 3+1) f p),false⟩ how L.D.l1 1) L.slot=(L.number,L.kept,L.pages)∧Eb (Jq ⟨1,16+24*(1-L.slot),bsOf (slotL (L.number % 3+1) f p),false⟩ how L.D.l1 1) L.kept=L.fs.take L.kept) ∨
  (Bj (Jq ⟨1,16+24*(1-L.slot),bsOf (slotL (L.number % 3+1) f p),false⟩ how L.D.l1 1)=1-L.slot∧Ap (Jq ⟨1,16+24*(1-L.slot),bsOf (slotL (L.number % 3+1) f p),false⟩ how L.D.l1 1) (1-L.slot)=(L.number % 3+1,f,p)∧Eb (Jq ⟨1,16+24*(1-L.slot),bsOf (slotL (L.number % 3+1) f p),false⟩ how L.D.l1 1) f=L.fs.take f):=by
 unfold Jq;rw [if_pos rfl]
 by_cases k1:how=1
 ·rw [if_pos k1]
  have e2:Ch.done ⟨1,16+24*(1-L.slot),bsOf (slotL (L.number % 3+1) f p),false⟩ L.D.l1=Ot L f p:=by
   unfold Ch.done Ot
   rw [if_neg (show ¬ (false=true) by decide),Ew]
  rw [e2];exact .inr (RQ0 h h64 hf hp)
 ·rw [if_neg k1]
  by_cases k2:how=2
  ·rw [if_pos k2]
   have e2:Ch.done (Ch.half ⟨1,16+24*(1-L.slot),bsOf (slotL (L.number % 3+1) f p),false⟩) L.D.l1=Gt L f p:=by
    unfold Ch.half
    rw [if_neg (show ¬ (false=true) by decide)]
    unfold Ch.done Gt
    rw [if_neg (by show ¬ (false=true);decide)]
    show EN0 L.D.l1 (16+24*(1-L.slot)) ((bsOf (slotL (L.number % 3+1) f p)).extract 0 ((bsOf (slotL (L.number % 3+1) f p)).size / 2)).data.toList=_
    rw [Bv,Ed,Ku,Ew,Ew]
    rfl
   rw [e2];exact .inl (RU0 h h64 f p)
  ·rw [if_neg k2]
   have:=Qz h.safe []
   have e3:(L.D.Fj []).l1=L.D.l1:=by
    show Gv [] L.D.waits 0 1 L.D.l1=_
    rw [h.waits];rfl
   rw [e3] at this;exact .inl ⟨this.2.1,this.2.2.1,this.2.2.2⟩
def Lg.settle (L:Lg) (l:List UInt8):Lg:={ L with D:={ L.D with l1:=l,waits:=[] } }
theorem GY0 {L:Lg} (h:Safe L) (hfull:L.fs.length=L.kept) {l:List UInt8} (z:zt l (64+1028*L.kept)=zt L.D.l1 (64+1028*L.kept)) (hl:L.D.l1.length≤l.length) (hm:l.length≤67108864):Gz (L.settle l):=by
 obtain ⟨f1,f2,f3,f4,f5⟩:=JX0 h z hl
 have hok:(L.settle l).ok:=by
  refine ⟨⟨h.ok.disk.l0,hm,fun c hc=>(by cases hc),h.ok.disk.fails⟩,h.ok.frames,fun i f hf=>?_,h.ok.top,h.ok.kept,h.ok.pages,h.ok.slot,h.ok.number⟩
  have hf2:L.fs[i]? = some f:=hf;have hi:i<L.fs.length:=(List.getElem?_eq_some_iff.1 hf2).1
  exact f5 i f (by omega) hf2
 exact ⟨⟨hok,f1,h.num,f2,f3,f4,f5,fun c hc=>(by cases hc),fun c hc=>(by cases hc)⟩,rfl⟩
theorem LB0 {L:Lg} (h:Safe L) (hfull:L.fs.length=L.kept) (keep:List Int):Gz (L.settle (L.D.Fj keep).l1):=by
 obtain ⟨z,hl⟩:=Yh keep L.D.waits 0 1 L.D.l1 (64+1028*L.kept) h.waits1;exact GY0 h hfull z hl (Dk.BK1 h.ok.disk keep).l1
theorem CE1 {D:Dk} (hw:∀ c∈D.waits,c.file=1) {c:Ch} (hc:c.file=1) (h1:¬ D.stops) (h2:¬ (D.change c).stops) :
 (D.change c).sync 1=⟨D.l0,c.done (D.seen 1),[],(D.change c).turn.fails,(D.change c).turn.down,(D.change c).turn.count⟩:=by
 have e:(D.change c).sync 1=(D.change c).Qg 1:=by
  unfold Dk.sync
  rw [if_pos (by decide),if_neg h2];rfl
 have hs:(D.change c).seen 1=c.done (D.seen 1):=by
  rw [Dk.Vt _ _ h1,if_pos hc]
 have hW:(D.change c).waits=D.waits++[c]:=by
  unfold Dk.change;rw [if_neg h1]
 have hf:(D.change c).waits.filter (fun c=>decide (c.file≠1))=[]:=by
  rw [hW,List.filter_eq_nil_iff];intro d hd
  have:d.file=1:=by
   rcases List.mem_append.1 hd with hd | hd
   ·exact hw d hd
   ·rw [List.mem_singleton.1 hd];exact hc
  simp [this]
 rw [e]
 show Dk.mk (if 1=0 then _ else (D.change c).l0) (if 1=0 then _ else (D.change c).seen 1) ((D.change c).waits.filter (fun c=>decide (c.file≠1))) _ _ _=_
 rw [if_neg (by decide),if_neg (by decide),hs,hf,(Iz D c).1]
theorem Zy {D E:Dk} (h1:D.fails=E.fails) (h2:D.down=E.down) (h3:D.count=E.count):(D.stops↔E.stops)∧D.turn.fails=E.turn.fails∧D.turn.down=E.turn.down∧D.turn.count=E.turn.count:=by
 have hs:D.stops↔E.stops:=by unfold Dk.stops;rw [h1,h2]
 refine ⟨hs, ?_⟩
 unfold Dk.turn
 by_cases h:D.stops
 ·rw [if_pos h,if_pos (hs.1 h)];exact ⟨h1,rfl,h3⟩
 ·rw [if_neg h,if_neg (fun h4=>h (hs.2 h4))]
  exact ⟨by show (if 0<D.fails then _ else _)=(if 0<E.fails then _ else _);rw [h1],h2,by show D.count+1=E.count+1;rw [h3]⟩
theorem LS0 {D E:Dk} (c:Ch) (h1:D.fails=E.fails) (h2:D.down=E.down) (h3:D.count=E.count):(D.change c).fails=(E.change c).fails∧(D.change c).down=(E.change c).down∧(D.change c).count=(E.change c).count:=by
 obtain ⟨hs,t⟩:=Zy h1 h2 h3;unfold Dk.change
 by_cases h:D.stops
 ·rw [if_pos h,if_pos (hs.1 h)];exact t
 ·rw [if_neg h,if_neg (fun h4=>h (hs.2 h4))];exact t
def DD0 (L:Lg) (f p:Nat):Ch:=⟨1,16+24*(1-L.slot),bsOf (slotL (L.number % 3+1) f p),false⟩
theorem Xq {L:Lg} (hs:L.slot<2) (f p:Nat):L.Bi f p=L.D.change (DD0 L f p):=by
 have hfit:(1<2∧16+24*(1-L.slot)+(bsOf (slotL (L.number % 3+1) f p)).size≤67108864):=⟨by omega,by rw [Bv,Ed];omega⟩
 have hD:L.Bi f p=L.D.change ⟨(1:Int).toNat,((16+24*(1-L.slot):Nat):Int).toNat,bsOf (slotL (L.number % 3+1) f p),false⟩:=if_pos (Qm.2 hfit);rw [hD,Int.toNat_natCast];rfl
theorem Safe.all1 {L:Lg} (h:Safe L):∀ c∈L.D.waits,c.file=1:=fun c hc=>by
 have h0:=h.waits0 c hc;have h1:=(h.ok.disk.waits c hc).1;omega
theorem PE0 {L:Lg} (h:Safe L) (f p:Nat) (h1:¬ L.D.stops) (h2:¬ (L.Bi f p).stops) :
 L.tell f p=(L.settle (L.D.seen 1)).tell f p∧¬ (L.settle (L.D.seen 1)).D.stops∧¬ ((L.settle (L.D.seen 1)).Bi f p).stops:=by
 have hs:=h.ok.slot;have e1:=Xq hs f p;have e2:(L.settle (L.D.seen 1)).Bi f p=(L.settle (L.D.seen 1)).D.change (DD0 L f p):=Xq (L:=L.settle (L.D.seen 1)) hs f p;obtain ⟨t0,_⟩:=Zy (D:=L.D) (E:=(L.settle (L.D.seen 1)).D) rfl rfl rfl;obtain ⟨c1,c2,c3⟩:=LS0 (D:=L.D) (E:=(L.settle (L.D.seen 1)).D) (DD0 L f p) rfl rfl rfl;obtain ⟨u0,u1,u2,u3⟩:=Zy c1 c2 c3
 have k1:¬ (L.settle (L.D.seen 1)).D.stops:=fun h3=>h1 (t0.2 h3)
 have h2':¬ (L.D.change (DD0 L f p)).stops:=by rw [← e1];exact h2
 have k2':¬ ((L.settle (L.D.seen 1)).D.change (DD0 L f p)).stops:=fun h3=>h2' (u0.2 h3)
 have k2:¬ ((L.settle (L.D.seen 1)).Bi f p).stops:=by rw [e2];exact k2'
 have a:L.tell f p={ L with D:=(L.Bi f p).sync 1,slot:=1-L.slot,number:=L.number % 3+1,kept:=f,pages:=p }:=(if_neg h1).trans (if_neg h2)
 have b:(L.settle (L.D.seen 1)).tell f p={ L with D:=((L.settle (L.D.seen 1)).Bi f p).sync 1,slot:=1-L.slot,number:=L.number % 3+1,kept:=f,pages:=p }:=(if_neg k1).trans (if_neg k2)
 refine ⟨?_,k1,k2⟩
 rw [a,b,e1,e2,CE1 h.all1 rfl h1 h2',CE1 (fun c hc=>by cases hc) rfl k1 k2',u1,u2,u3]
 rfl
theorem Zd (D:Dk) (keep:List Int):(D.turn.Fj keep).l0=(D.Fj keep).l0∧(D.turn.Fj keep).l1=(D.Fj keep).l1:=by
 obtain ⟨a,b,c⟩:=Zm D
 constructor
 ·show Gv keep D.turn.waits 0 0 D.turn.l0=Gv keep D.waits 0 0 D.l0
  rw [a,c]
 ·show Gv keep D.turn.waits 0 1 D.turn.l1=Gv keep D.waits 0 1 D.l1
  rw [b,c]
structure Inv (L:Lg) (K N:Nat→Option ByteArray):Prop where
 safe:Safe L
 l0:L.D.l0.length≤6144
 six:L.kept≠0→L.pages=6
 kept:Holds L.D.l0 (L.fs.take L.kept) K
 now:Holds L.D.l0 L.fs N
section
variable {L:Lg} {K N:Nat→Option ByteArray}
theorem Tf {L:Lg} (h:Gz L) (keep:List Int):L.settle (L.D.Fj keep).l1=L∧(L.D.Fj keep).l1=L.D.l1:=by
 have e:(L.D.Fj keep).l1=L.D.l1:=by
  show Gv keep L.D.waits 0 1 L.D.l1=_
  rw [h.waits];rfl
 refine ⟨?_,e⟩
 rw [e];have hw:=h.waits;obtain ⟨⟨a,b,c,d,e2,f⟩,fs,k,p,s,u⟩:=L;have hw2:c=[]:=hw;subst hw2
 rfl
end
theorem XO0 (D:Dk):D.Ec=0∨D.Ec=2:=by
 unfold Dk.Ec;split
 ·exact .inr rfl
 ·exact .inl rfl
theorem LL0 {L:Lg} (h:Safe L) {D3:Dk} (hok3:D3.ok) (y1:D3.l1=L.D.l1) (y2:D3.waits=L.D.waits) (y3:D3.seen 1=L.D.seen 1):Safe ({ L with D:=D3 }:Lg):=by
 refine ⟨h.ok.same hok3 y3, ?_,h.num, ?_, ?_, ?_, ?_, ?_, ?_⟩
 ·show D3.l1.take 16=Hu;rw [y1];exact h.mark
 ·show Aw D3.l1 _ 24=_;rw [y1];exact h.slot
 ·show Lt ((zt D3.l1 _).drop _) _;rw [y1];exact h.old
 ·show _∨_≤D3.l1.length;rw [y1];exact h.top
 ·show ∀ i f,i<L.kept→L.fs[i]? = some f→Aw D3.l1 (64+1028*i) 1028=f.bytes;rw [y1];exact h.lies
 ·show ∀ c∈D3.waits,_;rw [y2];exact h.waits1
 ·show ∀ c∈D3.waits,_;rw [y2];exact h.waits0
theorem WO0 (L:Lg) (f p:Nat):L.Gl f p=0∨L.Gl f p=2:=by
 unfold Lg.Gl
 split
 ·exact .inr rfl
 ·exact XO0 _
def Ff (a b:List UInt8) (f:Int) (n:Nat):Dk:=⟨a,b,[],f,false,n⟩
def nothing:Nat→Option ByteArray:=fun _=>none
theorem CP1 (n:Nat) (hn:n<6):zpg [] n=List.replicate 1024 0:=by
 refine List.ext_getElem? fun i=>?_
 unfold zpg;rw [Dx,List.getElem?_replicate]
 split
 ·rw [AJ0,if_pos (by omega),if_neg (by simp)]
 ·rfl
theorem Xl:Holds [] [] nothing:=fun n hn=>by
 unfold EA1
 rw [if_neg (show ¬ Bc [] n≠0 from fun h2=>h2 rfl),CP1 n hn]
 exact ⟨rfl,fun h=>absurd rfl h⟩
theorem BD1 (t:List UInt8):EN0 [] 0 t=t:=by
 refine List.ext_getElem? fun i=>?_
 rw [Un,Ue]
 by_cases h:i<t.length
 ·rw [if_pos (by omega)];rfl
 ·rw [if_neg (by omega),if_neg (by simp),if_neg (by omega),List.getElem?_eq_none (by omega)]
def LM0:List UInt8:=Hu++slotL 1 0 0
theorem RM0:LM0.length=40:=by decide
theorem RH0 (n:Nat):(Pz (Ff [] [] (-1) n)).l0=[]∧(Pz (Ff [] [] (-1) n)).l1=LM0∧(Pz (Ff [] [] (-1) n)).waits=[]∧(Pz (Ff [] [] (-1) n)).fails = -1∧(Pz (Ff [] [] (-1) n)).down=false:=by
 have hc:Ch.done ⟨1,0,⟨#[]⟩,true⟩ []=[]:=rfl;have e1:(Ff [] [] (-1) n).Uu 1 0=⟨[],[],[⟨1,0,⟨#[]⟩,true⟩], -1,false,n+1⟩:=rfl;have e2:(⟨[],[],[⟨1,0,⟨#[]⟩,true⟩], -1,false,n+1⟩:Dk).sync 1=⟨[],[],[], -1,false,n+1+1⟩:=rfl
 have hs:(bsOf (Hu++slotL 1 0 ((([]:List UInt8)).length / 1024))).size=40:=by rw [Bv];exact RM0
 have e3:(⟨[],[],[], -1,false,n+1+1⟩:Dk).write 1 0 (bsOf (Hu++slotL 1 0 ((([]:List UInt8)).length / 1024)))=⟨[],[],[⟨1,0,bsOf (Hu++slotL 1 0 ((([]:List UInt8)).length / 1024)),false⟩], -1,false,n+1+1+1⟩:=by
  refine (if_pos ?_).trans ?_
  ·rw [hs];decide
  ·rfl
 have e0:Pz (Ff [] [] (-1) n)=((((Ff [] [] (-1) n).Uu 1 0).sync 1).write 1 0 (bsOf (Hu++slotL 1 0 ((([]:List UInt8)).length / 1024)))).sync 1:=rfl
 have e4:Pz (Ff [] [] (-1) n)=⟨[],EN0 [] 0 (bsOf LM0).data.toList,[], -1,false,n+1+1+1+1⟩:=by
  rw [e0,e1,e2,e3];rfl
 rw [e4]
 exact ⟨rfl,by show EN0 [] 0 (bsOf LM0).data.toList=_;rw [Ew,BD1],rfl,rfl,rfl⟩
theorem RL0:Bj []=2:=by decide
theorem start_eq (n:Nat):Lg.opened (Ff [] [] (-1) n)=⟨Pz (Ff [] [] (-1) n),[],0,0,0,1⟩:=(if_pos (c:=Bj ((Ff [] [] (-1) n).seen 1)=2) RL0).trans (by rw [show ((Ff [] [] (-1) n).seen 0).length / 1024=0 from by show 0 / 1024=0;decide])
theorem inv_start (n:Nat):Inv (Lg.opened (Ff [] [] (-1) n)) nothing nothing:=by
 obtain ⟨h0,h1,h2,h3,h4⟩:=RH0 n
 have hok:(Lg.opened (Ff [] [] (-1) n)).ok:=MA0 ⟨by simp [Ff],by simp [Ff],fun c hc=>(by cases hc),(by show -1≤(-1:Int)∧(-1:Int)≤9223372036854775807;decide)⟩
 rw [start_eq] at hok ⊢
 generalize Pz (Ff [] [] (-1) n)=D at *
 have hz:(zt LM0 (40+24*(1-0))).drop (16+24*(1-0))=List.replicate 24 0:=by decide
 refine ⟨⟨hok, ?_,⟨Nat.le_refl _,(by show 1≤3;decide)⟩, ?_, ?_,.inl rfl,fun i f hi hf=>(by cases hf),fun c hc=>?_,fun c hc=>?_⟩, ?_,fun h=>absurd rfl h, ?_, ?_⟩
 ·show D.l1.take 16=Hu;rw [h1];decide
 ·show Aw D.l1 (16+24*0) 24=slotL 1 0 0;rw [h1];decide
 ·show Lt ((zt D.l1 (40+24*(1-0))).drop (16+24*(1-0))) 1;rw [h1,hz];exact XM0 1
 ·have hc2:c∈D.waits:=hc
  rw [h2] at hc2;cases hc2
 ·have hc2:c∈D.waits:=hc
  rw [h2] at hc2;cases hc2
 ·show D.l0.length≤6144;rw [h0];exact Nat.zero_le _
 ·show Holds D.l0 _ _;rw [h0];exact Xl
 ·show Holds D.l0 _ _;rw [h0];exact Xl
def NZ0 (l1:List UInt8):Prop:=∀ D:Dk,D.ok→D.l1=l1→D.waits=[]→Safe (Lg.opened D)
theorem WP0 {L:Lg} (h:Safe L) (keep:List Int) {D:Dk} (e1:D.l1=(L.D.Fj keep).l1) (hw:D.waits=[]):Lg.opened D=⟨D,L.fs.take L.kept,L.kept,L.pages,L.slot,L.number⟩:=by
 obtain ⟨a0,a1,a2,a3⟩:=Qz h keep;have hs:=h.ok.slot
 have s1:D.seen 1=(L.D.Fj keep).l1:=by
  rw [← e1];unfold Dk.seen;rw [hw];rfl
 have hx:Bj (D.seen 1)≠2:=by rw [s1,a1];omega
 have e:Lg.opened D=⟨D,Eb (D.seen 1) (Ap (D.seen 1) (Bj (D.seen 1))).2.1,(Ap (D.seen 1) (Bj (D.seen 1))).2.1,(Ap (D.seen 1) (Bj (D.seen 1))).2.2,Bj (D.seen 1),(Ap (D.seen 1) (Bj (D.seen 1))).1⟩:=if_neg hx;rw [e,s1,a1,a2,a3]
theorem seen_none {D:Dk} (hw:D.waits=[]):D.seen 1=D.l1:=by unfold Dk.seen;rw [hw];rfl
theorem DE0 {L:Lg} (h:Safe L) (keep:List Int):NZ0 (L.D.Fj keep).l1:=fun D hok e1 hw=>by
 rw [WP0 h keep e1 hw];have hk:=h.ok.kept
 have S:=(LB0 (CE0 h) (show (L.fs.take L.kept).length=L.kept by rw [List.length_take];omega) keep)
 have hw2:=S.waits
 have:=LL0 S.safe (D3:=D) hok e1 (hw.trans hw2.symm) (by rw [seen_none hw,seen_none hw2];exact e1)
 exact this
theorem Uk {L:Lg} (h:Gz L):NZ0 L.D.l1:=by
 have:=DE0 h.safe []
 rwa [(Tf h []).2] at this
theorem SG0 {L:Lg} (h:Gz L) (h64:64≤L.D.l1.length) {f p:Nat} (hf:f≤L.fs.length) (hp:p<4294967296):NZ0 (Ot L f p):=by
 have hok:({ L.D with fails:=-1,down:=false }:Dk).ok:=⟨h.safe.ok.disk.l0,h.safe.ok.disk.l1,h.safe.ok.disk.waits,by show -1≤(-1:Int)∧(-1:Int)≤9223372036854775807;omega⟩
 have h':Gz ({ L with D:={ L.D with fails:=-1,down:=false } }:Lg):=⟨LL0 h.safe hok rfl rfl rfl,h.waits⟩
 have n1:¬ ({ L.D with fails:=-1,down:=false }:Dk).stops:=fun hx=>by
  rcases hx with hx | hx
  ·cases hx
  ·exact absurd (show (-1:Int)=0 from hx) (by decide)
 have n2:¬ (({ L with D:={ L.D with fails:=-1,down:=false } }:Lg).Bi f p).stops:=fun hx=>by
  have e:=Xq h'.safe.ok.slot f p;rw [e] at hx;unfold Dk.change at hx;rw [if_neg n1] at hx;unfold Dk.turn at hx;rw [if_neg n1] at hx
  rcases hx with hx | hx
  ·cases hx
  ·exact absurd (show (if (0:Int) < -1 then (-1:Int)-1 else -1)=0 from hx) (by decide)
 have S:=KF0 h' h64 hf hp n1 n2
 have e:(({ L with D:={ L.D with fails:=-1,down:=false } }:Lg).tell f p).D.l1=Ot L f p:=by
  have e2:({ L with D:={ L.D with fails:=-1,down:=false } }:Lg).tell f p={ ({ L with D:={ L.D with fails:=-1,down:=false } }:Lg) with D:=(({ L with D:={ L.D with fails:=-1,down:=false } }:Lg).Bi f p).sync 1,slot:=1-L.slot,number:=L.number % 3+1,kept:=f,pages:=p }:=(if_neg n1).trans (if_neg n2)
  rw [e2];exact (GC0 h' f p n1 n2).2.1
 rw [← e];exact Uk S
theorem UB0 {L:Lg} (h:Gz L) (h64:64≤L.D.l1.length) (f p:Nat):NZ0 (Gt L f p):=by
 have hs:=h.safe.ok.slot;have hk:=h.safe.ok.kept
 have hz:((slotL (L.number % 3+1) f p).take 12).length=12:=by rw [List.length_take,Ed];omega
 have hlen:(Gt L f p).length=L.D.l1.length:=by unfold Gt;rw [Ox,hz];omega
 have far:∀ a n,64≤a→a+n≤L.D.l1.length→Aw (Gt L f p) a n=Aw L.D.l1 a n:=fun a n ha hn=>Jm hn (.inr (by rw [hz];omega))
 have near:∀ a n,a+n≤16+24*(1-L.slot)→Aw (Gt L f p) a n=Aw L.D.l1 a n:=fun a n hn=>Jm (by omega) (.inl hn)
 have lies:∀ i g,L.fs[i]? = some g→Aw (Gt L f p) (64+1028*i) 1028=g.bytes:=fun i g hg=>by
  have hl:=Ir h hg
  have hfl:=Gj hl (Fr.Gx _ (h.safe.ok.frames g (List.mem_of_getElem? hg)).2) (by omega)
  rw [far _ _ (by omega) hfl];exact hl
 have sub:∀ i g,(L.fs.take L.kept)[i]? = some g→L.fs[i]? = some g:=fun i g hg=>by
  rw [List.getElem?_take] at hg
  split at hg
  ·exact hg
  ·cases hg
 have hok:(L.back.settle (Gt L f p)).ok:=by
  refine ⟨⟨h.safe.ok.disk.l0,by show (Gt L f p).length≤_;rw [hlen];exact h.safe.ok.disk.l1,fun c hc=>(by cases hc),h.safe.ok.disk.fails⟩,fun g hg=>h.safe.ok.frames g (List.mem_of_mem_take hg),fun i g hg=>?_,(CE0 h.safe).ok.top,(CE0 h.safe).ok.kept,h.safe.ok.pages,h.safe.ok.slot,h.safe.ok.number⟩
  exact lies i g (sub i g hg)
 have S:Gz (L.back.settle (Gt L f p)):=by
  refine ⟨⟨hok, ?_,h.safe.num, ?_, ?_, ?_,fun i g hi hg=>lies i g (sub i g hg),fun c hc=>(by cases hc),fun c hc=>(by cases hc)⟩,rfl⟩
  ·show (Gt L f p).take 16=Hu
   have:=near 0 16 (by omega)
   rw [Fe,Fe] at this;rw [this];exact h.safe.mark
  ·show Aw (Gt L f p) (16+24*L.slot) 24=slotL L.number L.kept L.pages
   rcases (show L.slot=0∨L.slot=1 by omega) with e | e
   ·rw [near _ _ (by omega)];exact h.safe.slot
   ·have:=h.safe.slot
    rw [e] at this ⊢;rw [← this]
    exact Jm (by omega) (.inr (by rw [hz,e];omega))
  ·show Lt ((zt (Gt L f p) (40+24*(1-L.slot))).drop (16+24*(1-L.slot))) L.number
   have ho:=h.safe.old
   rw [OO0 (by omega)] at ho ⊢
   have e2:(Aw (Gt L f p) (16+24*(1-L.slot)) 24).drop 12=(Aw L.D.l1 (16+24*(1-L.slot)) 24).drop 12:=by
    refine List.ext_getElem? fun i=>?_
    rw [List.getElem?_drop,List.getElem?_drop,Dx,Dx]
    split
    ·unfold Gt
     rw [Un,if_neg (by rw [hz];omega),Vu _ _ _ (by omega)]
    ·rfl
   unfold Lt at ho ⊢;rw [e2];exact ho
  ·show L.kept=0∨64+1028*L.kept≤(Gt L f p).length
   rw [hlen];exact h.safe.top
 exact Uk S
theorem KZ0 {L:Lg} (h:Gz L) (h64:64≤L.D.l1.length) {f p:Nat} (hf:f≤L.fs.length) (hp:p<4294967296) (how:Int) :
 NZ0 (Jq ⟨1,16+24*(1-L.slot),bsOf (slotL (L.number % 3+1) f p),false⟩ how L.D.l1 1):=by
 unfold Jq;rw [if_pos rfl]
 by_cases k1:how=1
 ·rw [if_pos k1]
  have e2:Ch.done ⟨1,16+24*(1-L.slot),bsOf (slotL (L.number % 3+1) f p),false⟩ L.D.l1=Ot L f p:=by
   unfold Ch.done Ot
   rw [if_neg (show ¬ (false=true) by decide),Ew]
  rw [e2];exact SG0 h h64 hf hp
 ·rw [if_neg k1]
  by_cases k2:how=2
  ·rw [if_pos k2]
   have e2:Ch.done (Ch.half ⟨1,16+24*(1-L.slot),bsOf (slotL (L.number % 3+1) f p),false⟩) L.D.l1=Gt L f p:=by
    unfold Ch.half
    rw [if_neg (show ¬ (false=true) by decide)]
    unfold Ch.done Gt
    rw [if_neg (by show ¬ (false=true);decide)]
    show EN0 L.D.l1 (16+24*(1-L.slot)) ((bsOf (slotL (L.number % 3+1) f p)).extract 0 ((bsOf (slotL (L.number % 3+1) f p)).size / 2)).data.toList=_
    rw [Bv,Ed,Ku,Ew,Ew]
    rfl
   rw [e2];exact UB0 h h64 f p
  ·rw [if_neg k2]
   exact Uk h
theorem NK0 {D:Dk} (h:¬ D.stops):D.down=false:=by
 cases hd:D.down with
 | false=>rfl
 | true=>exact absurd (.inl hd) h
theorem WA0 {D:Dk} {c:Ch} (h:¬ D.stops):(D.change c).down=false:=by
 unfold Dk.change Dk.turn;rw [if_neg h,if_neg h];exact NK0 (D:=D) h
theorem DI1 {D:Dk} {f:Nat} (hf:f<2) (h:¬ D.stops):(D.sync f).down=false:=by
 unfold Dk.sync
 rw [if_pos (by omega),if_neg h]
 show D.turn.down=false
 unfold Dk.turn;rw [if_neg h];exact NK0 (D:=D) h
theorem YE0 {L:Lg} {f p:Nat} (h:L.Gl f p=0):(L.tell f p).D.down=false:=by
 unfold Lg.Gl at h
 by_cases h1:L.D.stops
 ·rw [if_pos h1] at h;cases h
 ·rw [if_neg h1] at h
  have h2:=(Iw _).1 h;unfold Lg.tell;rw [if_neg h1,if_neg h2]
  exact DI1 (f:=1) (by omega) h2
end Go.Proofs.YtjihboddejaelaaGreat
