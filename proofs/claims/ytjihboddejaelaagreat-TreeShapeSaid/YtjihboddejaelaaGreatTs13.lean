/-
  A pool over a disk that does not fail, nothing pinned: its operations do what they are told, without an error. Plain Lean, no program in sight.
-/
import Derived.Test.YtjihboddejaelaaGreatTs9
import Derived.Test.YtjihboddejaelaaGreatTs12
import Derived.Test.YtjihboddejaelaaGreatTs4
import Derived.Test.YtjihboddejaelaaGreatTs7
import Derived.Test.YtjihboddejaelaaGreatTs6
import Derived.Test.YtjihboddejaelaaGreatTs1
import Derived.Outline
set_option linter.unusedVariables false
set_option linter.unusedSimpArgs false
set_option maxRecDepth 100000
set_option maxHeartbeats 100000000
namespace Go.Proofs.YtjihboddejaelaaGreat
open Go.RowKit
structure Cal (P:Pl) (B N:Bk) (c k:Nat):Prop where
 pin:PIn 60000 P B N
 root:Root N P.free
 wt:wt P≤c
 calm:P.L.D.calm
 most:8≤P.most
 pins:∀ f∈P.ring,f.pins≤0
 waits:P.L.D.waits.length≤k
 count:P.L.D.count≤k
section
variable {P P':Pl} {B N N':Bk} {c k c' k':Nat}
theorem Cal.more (h:Cal P B N c k) (hc:c≤c') (hk:k≤k'):Cal P B N c' k':=⟨h.pin,h.root,Nat.le_trans h.wt hc,h.calm,h.most,h.pins,Nat.le_trans h.waits hk,by have:=h.count;omega⟩
theorem Cal.next (h:Cal P B N c k) {d m:Nat} (g:Go P P' d) (hp:PIn 60000 P' B N') (hr:Root N' P'.free) (hw:Go.Proofs.YtjihboddejaelaaGreat.wt P'≤m) (hcalm:P'.L.D.calm):Cal P' B N' m (k+d) :=
 ⟨hp,hr,hw,hcalm,by rw [g.most];exact h.most,g.pins 0 h.pins,by have:=g.near.waits;have:=h.waits;omega,by have:=g.near.count;have:=h.count;omega⟩
theorem OF0 {L:Lg} (h:L.D.calm) (hlen:L.fs.length≤60000) {n:Nat} (hn:n≤65536) {t:ByteArray} (ht:t.size=1024):L.Dq n t=0∧(L.append n t).D.calm:=by
 obtain ⟨e1,e2⟩:=Zj hlen hn ht
 exact ⟨e1.trans h.Ec,by rw [e2];exact h.change _⟩
theorem TQ0 (h:PIn 60000 P B N) (hw:wt P≤60000) (hc:P.L.D.calm) {f:Pf} (hf:f∈P.ring):(P.Ht f).2=0∧(P.Ht f).1.L.D.calm:=by
 unfold Pl.Ht
 cases hd:f.dirty
 ·exact ⟨rfl,hc⟩
 ·obtain ⟨a,b⟩:=OF0 hc (by unfold wt at hw;omega) (h.up f hf).2 (h.ok.size f hf)
  rw [if_pos rfl,if_pos a];exact ⟨rfl,b⟩
theorem KB0 (h:PIn 60000 P B N) (hw:wt P≤60000) (hc:P.L.D.calm) (hm:8≤P.most) (hp:∀ f∈P.ring,f.pins≤0):P.room.2=0∧P.room.1.L.D.calm:=by
 unfold Pl.room
 by_cases hl:P.ring.length<P.most
 ·rw [if_pos hl];exact ⟨rfl,hc⟩
 ·rw [if_neg hl]
  cases hi:idle P.ring with
  | none =>
    exfalso
    cases hrr:P.ring with
    | nil=>rw [hrr] at hl;simp at hl;omega
    | cons f r =>
      have h1:=List.find?_eq_none.1 hi f (by rw [hrr];exact List.mem_cons_self ..)
      have h2:=hp f (by rw [hrr];exact List.mem_cons_self ..)
      exact h1 (by simp;omega)
  | some f=>exact TQ0 h hw hc (List.mem_of_find?_eq_some hi)
theorem ZR0 (h:PIn 60000 P B N) (hw:wt P≤60000) (hc:P.L.D.calm) (hm:8≤P.most) (hp:∀ f∈P.ring,f.pins≤0) {x:Nat} (hx:x<N.q):(P.get x).2=0∧(P.get x).1.L.D.calm:=by
 have hpg:=h.pages;unfold Pl.get
 rw [if_pos ⟨by omega,by omega⟩]
 cases hf:NU0 x P.ring with
 | some f=>exact ⟨rfl,hc⟩
 | none =>
   obtain ⟨r1,r2⟩:=KB0 h hw hc hm hp;obtain ⟨q1,q2,q3⟩:=NX0 h hw;obtain ⟨s1,s2,s3,s4,s5⟩:=Kv (P:=P);have hfew:=q1.ok.few;have hpg2:=q1.pages
   have hl:=q1.lies x (by omega) fun f hf2 hn=>absurd (show (f.n:Int)=x by omega) (Yi hf f (s5 f hf2))
   have hrd:=((OD0 q1.log.safe (n:=x) (by omega) hl).1 r2.1).1
   show (if P.room.2=0 then P.room.1.fetch (x:Int).toNat else P.room).2=0∧(if P.room.2=0 then P.room.1.fetch (x:Int).toNat else P.room).1.L.D.calm
   rw [if_pos r1,Int.toNat_natCast];unfold Pl.fetch;rw [if_pos hrd];exact ⟨rfl,r2⟩
theorem Cal.get (h:Cal P B N c k) (hc:c≤60000) {x:Nat} (hx:x<N.q):(P.get x).2=0∧Cal (P.get x).1 B N c (k+1)∧P.text x=N.K x:=by
 have hw:Go.Proofs.YtjihboddejaelaaGreat.wt P≤60000:=Nat.le_trans h.wt hc;obtain ⟨a,b⟩:=ZR0 h.pin hw h.calm h.most h.pins hx;obtain ⟨g1,g2,g3⟩:=BB1 h.pin h.root hw x
 refine ⟨a,h.next (EI0 P x) g1 g2 (Nat.le_trans g3 h.wt) b, ?_⟩
 have ht:=(WL0 h.pin hw a).2.2;rw [Int.toNat_natCast] at ht;exact (if_pos a).trans ht
theorem Cal.put (h:Cal P B N c k) (hc:c≤60000) {x:Nat} (hx:x<N.q) {s:ByteArray} (hs:s.size=1024) (h0:x≠0):(P.put x s).2=0∧Cal (P.put x s).1 B (N.put x s) (c+1) (k+1):=by
 have hw:Go.Proofs.YtjihboddejaelaaGreat.wt P≤60000:=Nat.le_trans h.wt hc;obtain ⟨a,b,_⟩:=h.get hc hx;obtain ⟨p1,p2,p3,p4,p5⟩:=QL0 h.pin hw x hs
 have e:(P.put x s).2=0:=by unfold Pl.put;rw [if_pos a]
 obtain ⟨_,_,q⟩:=p1 e;rw [Int.toNat_natCast] at q
 refine ⟨e,h.next (XL0 P x s) q (by rw [p4];exact h.root.put h0 s) (by have:=h.wt;omega) ?_⟩
 have e2:(P.put x s).1.L=(P.get x).1.L:=by unfold Pl.put;rw [if_pos a];rfl
 rw [e2];exact b.calm
theorem Cal.write (h:Cal P B N c k) (hc:c≤60000) {x:Nat} (hx:x<N.q) {s:ByteArray} (hs:s.size=1024) (h0:x≠0):(P.write x s).2=0∧Cal (P.write x s).1 B (N.put x s) (c+1) (k+1):=by
 have e:P.write x s=P.put x s:=if_neg (by omega)
 rw [e];exact h.put hc hx hs h0
theorem Cal.Cf (h:Cal P B N c k) (hc:c+1≤60000) {n:Nat} (hn:n≤2147483647):(P.Cf n).2=0∧Cal (P.Cf n).1 B (N.put 0 (Dc 4 n [])) (c+1) (k+2)∧(P.Cf n).1.free=n:=by
 have hw:Go.Proofs.YtjihboddejaelaaGreat.wt P≤60000:=Nat.le_trans h.wt (by omega)
 obtain ⟨a,b,ht⟩:=h.get (by omega) (x:=0) h.root.pos
 have a':(P.get 0).2=0:=a
 have hts:(P.get 0).1.Pv.s=N.K 0:=by have h1:P.text 0=N.K 0:=ht;unfold Pl.text at h1;rw [if_pos a'] at h1;exact h1
 rw [h.root.text] at hts
 have hop:Hr (P.get 0).1.Pv.s=some (4,P.free,[]):=by rw [hts];exact ML0 h.root.le
 obtain ⟨p1,p2,p3,p4,p5⟩:=QL0 b.pin (Nat.le_trans b.wt (by omega)) 0 (s:=Dc 4 n []) (ZU0 hn)
 obtain ⟨a2,b2,_⟩:=b.get (by omega) (x:=0) h.root.pos
 have e2:((P.get 0).1.put 0 (Dc 4 n [])).2=0:=by unfold Pl.put;rw [if_pos (show ((P.get 0).1.get 0).2=0 from a2)]
 have e:P.Cf n=({ ((P.get 0).1.put 0 (Dc 4 n [])).1 with free:=n },0):=by
  unfold Pl.Cf;rw [if_pos a',hop];exact if_pos e2
 obtain ⟨_,_,q⟩:=p1 e2
 have hcl:(P.Cf n).1.L.D.calm:=by
  have e3:(P.Cf n).1.L=((P.get 0).1.get 0).1.L:=by rw [e];show ((P.get 0).1.put 0 _).1.L=_;unfold Pl.put;rw [if_pos (show ((P.get 0).1.get 0).2=0 from a2)];rfl
  rw [e3];exact b2.calm
 refine ⟨by rw [e],h.next (SA0 P n) ?_ ?_ ?_ hcl,by rw [e]⟩
 ·rw [e];exact q.GP0 hn
 ·rw [e];exact AK1 h.root.pos hn
 ·rw [e];exact Nat.le_trans p3 (Nat.succ_le_succ b.wt)
def Bk.grow (N:Bk):Bk:=⟨N.q+1,fun m=>if m=N.q then Gu else N.K m⟩
theorem Cal.grow (h:Cal P B N c k) (hc:c≤60000) (hq:N.q≤60000):P.grow.2=0∧Cal P.grow.1 B N.grow (c+1) (k+1)∧P.grow.1.free=P.free:=by
 have hw:Go.Proofs.YtjihboddejaelaaGreat.wt P≤60000:=Nat.le_trans h.wt hc;have hpp:=h.pin.pages
 have hok:=CY1 h.pin.ok (by omega)
 obtain ⟨r1,r2,r3⟩:=NX0 h.pin hw;obtain ⟨s1,s2,s3,s4,s5⟩:=Kv (P:=P);obtain ⟨hr,hcl⟩:=KB0 h.pin hw h.calm h.most h.pins;have rp:=h.root.pos
 have e:P.grow=({ P.room.1 with pages:=P.room.1.pages+1,ring:=P.room.1.ring++[⟨P.room.1.pages,Gu,0,true⟩],turned:=Vj P.room.1.pages P.room.1.turned },0):=if_pos hr
 have g:=DF1 P;rw [e] at hok g ⊢
 generalize P.room.1=R at *
 have hpg:=r1.pages;rw [hpg] at hok g ⊢
 refine ⟨rfl,h.next g ⟨hok,r1.log,rfl,fun g hg=>?_,fun n hn hc=>?_,fun n hn hnt=>?_,Nat.le_succ_of_le r1.le⟩ ⟨Nat.le_succ_of_le rp, ?_, ?_⟩ ?_ hcl,s3⟩
 ·show g.s=(if g.n=N.q then Gu else N.K g.n)∧(g.dirty=true→g.n∈Vj N.q R.turned)
  rcases List.mem_append.1 hg with hg | hg
  ·have h1:=r1.ring g hg
   have h2:=r1.up g hg
   rw [if_neg (by omega)]
   refine ⟨h1.1,fun h3=>?_⟩
   unfold Vj;split
   ·exact h1.2 h3
   ·exact List.mem_cons_of_mem _ (h1.2 h3)
  ·rw [List.mem_singleton.1 hg]
   refine ⟨(if_pos rfl).symm,fun _=>?_⟩
   show N.q∈Vj N.q R.turned
   unfold Vj;split
   ·assumption
   ·exact List.mem_cons_self ..
 ·have hn2:n<N.q+1:=hn
  show Vh R.L.D.l0 R.L.fs n (if n=N.q then Gu else N.K n)
  have hnq:n≠N.q:=fun e=>by
   have:(true:Bool)=false:=hc ⟨N.q,Gu,0,true⟩ (List.mem_append_right _ (List.mem_singleton.2 rfl)) e.symm
   cases this
  rw [if_neg hnq]
  exact r1.lies n (by omega) fun g hg=>hc g (List.mem_append_left _ hg)
 ·have hn2:n<N.q+1:=hn
  have hnt2:n∉Vj N.q R.turned:=hnt
  show n<B.q∧(if n=N.q then Gu else N.K n)=B.K n
  have hnq:n≠N.q:=fun e=>hnt2 (by
   rw [e];unfold Vj;split
   ·assumption
   ·exact List.mem_cons_self ..)
  rw [if_neg hnq]
  refine r1.same n (by omega) fun h2=>hnt2 ?_
  unfold Vj;split
  ·exact h2
  ·exact List.mem_cons_of_mem _ h2
 ·show (if 0=N.q then Gu else N.K 0)=Dc 4 R.free []
  rw [if_neg (by omega),s3];exact h.root.text
 ·show R.free≤_
  rw [s3];exact h.root.le
 ·show R.L.fs.length+((R.ring++[_]).filter (fun f:Pf=>f.dirty)).length≤_
  have hwt:=h.wt
  refine Nat.le_trans (Nat.le_trans ?_ (Nat.succ_le_succ r2)) (Nat.succ_le_succ hwt)
  unfold Go.Proofs.YtjihboddejaelaaGreat.wt;rw [List.filter_append,List.length_append];simp [List.filter_cons];omega
theorem Cal.ZL0 (h:Cal P B N c k) (hc:c≤60000) (hq:N.q≤60000) (h0:P.free=0):P.alloc.2=0∧P.Ah=N.q∧Cal P.alloc.1 B N.grow (c+1) (k+4)∧P.alloc.1.free=0:=by
 have hpp:=h.pin.pages
 have e:P.alloc=P.grow:=(if_pos h0).trans (if_neg (by omega))
 obtain ⟨a,b,d⟩:=h.grow hc hq;rw [e]
 exact ⟨a,(if_pos h0).trans hpp,b.more (Nat.le_refl _) (by omega),d.trans h0⟩
theorem Cal.BJ1 (h:Cal P B N c k) (hc:c+1≤60000) (h0:¬ P.free=0) (hf:P.free<N.q) {nx:Nat} (hx:nx≤2147483647) (ht:N.K P.free=Dc 3 nx []):P.alloc.2=0∧P.Ah=P.free∧Cal P.alloc.1 B ((N.put 0 (Dc 4 nx [])).put P.free Gu) (c+2) (k+4)∧P.alloc.1.free=nx:=by
 have e:P.alloc=P.reuse:=if_neg h0
 obtain ⟨a,b,t⟩:=h.get (by omega) hf
 have hts:(P.get P.free).1.Pv.s=N.K P.free:=by unfold Pl.text at t;rw [if_pos a] at t;exact t
 rw [ht] at hts
 have h3:1≤3∧3≤5∧nx≤2147483647∧Be []≤1012:=⟨by omega,by omega,hx,by decide⟩
 have hop:Hr (P.get P.free).1.Pv.s=some (3,nx,[]):=by rw [hts];exact Ju.2 ⟨h3.1,h3.2.1,h3.2.2.1,h3.2.2.2,(Oh h3).symm⟩
 obtain ⟨a2,b2,d2⟩:=b.Cf hc (n:=nx) hx
 obtain ⟨a3,b3⟩:=b2.put hc (x:=P.free) hf (s:=Gu) (DR0 (l:=0) (by omega)) h0
 have e2:P.reuse=((P.get P.free).1.Cf nx).1.put P.free Gu:=by
  unfold Pl.reuse;rw [if_pos a,hop];exact if_pos a2
 have hp5:(((P.get P.free).1.Cf nx).1.put P.free Gu).1.free=nx:=by
  obtain ⟨p1,p2,p3,p4,p5⟩:=QL0 b2.pin (Nat.le_trans b2.wt hc) P.free (s:=Gu) (DR0 (l:=0) (by omega))
  rw [p4,d2]
 rw [e,e2]
 exact ⟨a3,if_neg h0,b3.more (Nat.le_refl _) (by omega),hp5⟩
theorem Cal.free (h:Cal P B N c k) (hc:c+2≤60000) {x:Nat} (hx:x<N.q) (h0:x≠0):(P.IR0 x).2=0∧Cal (P.IR0 x).1 B ((N.put x (Dc 3 P.free [])).put 0 (Dc 4 x [])) (c+2) (k+3)∧(P.IR0 x).1.free=x:=by
 obtain ⟨a,b⟩:=h.put (by omega) hx (s:=Dc 3 P.free []) (DR0 h.root.le) h0
 have hfew:=h.pin.ok.few;have hpg:=h.pin.pages
 obtain ⟨a2,b2,d2⟩:=b.Cf (by omega) (n:=x) (by omega)
 have e:P.IR0 x=(P.put x (Dc 3 P.free [])).1.Cf x:=by
  unfold Pl.IR0
  rw [if_neg (show ¬ ((x:Int)=0) by omega),if_pos a,Int.toNat_natCast]
 rw [e]
 exact ⟨a2,b2.more (by omega) (by omega),d2⟩
end
abbrev Ky:=List UInt8
def ltK (a b:Ky):Prop:=Op.bytesLess a b=true
def leK (a b:Ky):Prop:=Op.bytesLess b a=false
theorem Nj {a b:UInt8} {x y:Ky}:ltK (a :: x) (b :: y)↔a<b∨(a=b∧ltK x y):=by
 unfold ltK;simp [Op.bytesLess]
theorem PB0 {b:UInt8} {y:Ky}:ltK [] (b :: y):=rfl
theorem Rt {x:Ky}:¬ ltK x []:=by unfold ltK;cases x <;> simp [Op.bytesLess]
theorem EB0 {a b:Ky}:leK a b↔¬ ltK b a:=by unfold leK ltK;simp
theorem Hq:∀ (a:Ky),¬ ltK a a
 | []=>Rt
 | a :: x=>fun h=>by
   rcases Nj.1 h with h | h
   ·exact absurd h (by simp)
   ·exact Hq x h.2
theorem Jo:∀ {a b c:Ky},ltK a b→ltK b c→ltK a c
 | _,_,[],_,h=>absurd h Rt
 | _,[],_ :: _,h,_=>absurd h Rt
 | [],_ :: _,_ :: _,_,_=>PB0
 | a :: x,b :: y,c :: z,h1,h2=>by
   refine Nj.2 ?_
   rcases Nj.1 h1 with h3 | ⟨rfl,h3⟩
   ·rcases Nj.1 h2 with h4 | ⟨rfl,h4⟩
    ·exact .inl (UInt8.lt_trans h3 h4)
    ·exact .inl h3
   ·rcases Nj.1 h2 with h4 | ⟨rfl,h4⟩
    ·exact .inl h4
    ·exact .inr ⟨rfl,Jo h3 h4⟩
theorem GV0:∀ (a b:Ky),ltK a b∨a=b∨ltK b a
 | [],[]=>.inr (.inl rfl)
 | [],_ :: _=>.inl PB0
 | _ :: _,[]=>.inr (.inr PB0)
 | a :: x,b :: y=>by
   rcases Nat.lt_trichotomy a.toNat b.toNat with h | h | h
   ·exact .inl (Nj.2 (.inl (UInt8.lt_iff_toNat_lt.2 h)))
   ·obtain rfl:a=b:=UInt8.toNat_inj.1 h
    rcases GV0 x y with h | h | h
    ·exact .inl (Nj.2 (.inr ⟨rfl,h⟩))
    ·exact .inr (.inl (by rw [h]))
    ·exact .inr (.inr (Nj.2 (.inr ⟨rfl,h⟩)))
   ·exact .inr (.inr (Nj.2 (.inl (UInt8.lt_iff_toNat_lt.2 h))))
theorem Qs (a:Ky):leK a a:=EB0.2 (Hq a)
theorem He {a b:Ky} (h:ltK a b):leK a b:=EB0.2 fun k=>Hq a (Jo h k)
theorem NJ0 (a:Ky):leK [] a:=EB0.2 Rt
theorem Xx {a b:Ky} (h:leK a b):ltK a b∨a=b:=by
 rcases GV0 a b with k | k | k
 ·exact .inl k
 ·exact .inr k
 ·exact absurd k (EB0.1 h)
theorem DK0 {a b c:Ky} (h:leK a b) (k:ltK b c):ltK a c:=by
 rcases Xx h with h | rfl
 ·exact Jo h k
 ·exact k
theorem Jw {a b c:Ky} (h:ltK a b) (k:leK b c):ltK a c:=by
 rcases Xx k with k | rfl
 ·exact Jo h k
 ·exact h
theorem YL0 {a b:Ky} (h:¬ ltK a b):leK b a:=EB0.2 h
theorem UL0 {a b:Ky} (h:¬ leK a b):ltK b a:=by
 rcases GV0 a b with k | k | k
 ·exact absurd (He k) h
 ·exact absurd (k ▸ Qs a) h
 ·exact k
instance (a b:Ky):Decidable (ltK a b):=inferInstanceAs (Decidable (_=true))
structure It where
 k:Ky
 r:Ky
deriving DecidableEq
structure Nd where
 n:Nat
 lo:Ky
 its:List It
def bsK (l:Ky):ByteArray:=⟨l.toArray⟩
theorem Bo (l:Ky):(bsK l).size=l.length:=by simp [bsK,ByteArray.size]
theorem Dn (l:Ky):(bsK l).data.toList=l:=by simp [bsK]
theorem Yk (s:ByteArray):bsK s.data.toList=s:=by cases s;simp [bsK]
def Ak (n:Nat):Ky:=[UInt8.ofNat (n / 16777216),UInt8.ofNat (n / 65536),UInt8.ofNat (n / 256),UInt8.ofNat n]
def Dz (r:Ky):Nat:=16777216*(r.getD 0 0).toNat+65536*(r.getD 1 0).toNat+256*(r.getD 2 0).toNat+(r.getD 3 0).toNat
theorem Du {n:Nat} (h:n<4294967296):Dz (Ak n)=n:=by
 unfold Dz Ak;simp only [List.getD_cons_zero,List.getD_cons_succ,UInt8.toNat_ofNat'];omega
def cellL (i:It):Ky:=UInt8.ofNat i.k.length :: (i.k++i.r)
def Af (i:It):ByteArray:=bsK (cellL i)
theorem YB0 (i:It):(cellL i).length=1+i.k.length+i.r.length:=by simp [cellL];omega
theorem Ef (i:It):(Af i).size=1+i.k.length+i.r.length:=by rw [Af,Bo,YB0]
def Dl (x:Nd):It:=⟨x.lo,Ak x.n⟩
def szI (i:It):Nat:=5+i.k.length+i.r.length
theorem BN0 (i:It):4+(Af i).size=szI i:=by rw [Ef];unfold szI;omega
def Ai (l:List It):Nat:=(l.map szI).sum
theorem Gi:Ai []=0:=rfl
theorem Df (i:It) (l:List It):Ai (i :: l)=szI i+Ai l:=by simp [Ai]
theorem Dw (l m:List It):Ai (l++m)=Ai l+Ai m:=by simp [Ai]
theorem Ee (l:List It):Be (l.map Af)=Ai l:=by
 unfold Be Ai;rw [List.map_map]
 congr 1
 exact List.map_congr_left fun i _=>BN0 i
def cutAt (h:Nat):List It→Nat
 | []=>0
 | i :: l=>if h=0 then 0 else 1+cutAt (h-szI i) l
theorem QZ0 (h:Nat):∀ l,cutAt h l≤l.length
 | []=>Nat.le_refl _
 | i :: l=>by
   unfold cutAt
   split
   ·exact Nat.zero_le _
   ·have:=QZ0 (h-szI i) l
    simp only [List.length_cons];omega
theorem FP0:∀ (l:List It) (h:Nat),h≤Ai l→h≤Ai (l.take (cutAt h l))∧∀ m,(∀ i∈l,szI i≤m)→Ai (l.take (cutAt h l))≤h+m-1∨h=0
 | [],h,hu=>by
   have:h=0:=by simpa [Ai] using hu
   subst this
   exact ⟨Nat.zero_le _,fun m _=>.inr rfl⟩
 | i :: l,h,hu=>by
   unfold cutAt
   by_cases h0:h=0
   ·rw [if_pos h0];exact ⟨by omega,fun m _=>.inr h0⟩
   ·rw [if_neg h0,Nat.add_comm 1,List.take_succ_cons,Df]
    rw [Df] at hu
    obtain ⟨a,b⟩:=FP0 l (h-szI i) (by omega)
    refine ⟨by omega,fun m hm=>.inl ?_⟩
    have hi:=hm i List.mem_cons_self
    have hp:0<szI i:=by unfold szI;omega
    rcases b m (fun j hj=>hm j (List.mem_cons_of_mem _ hj)) with b | b
    ·by_cases h1:h≤szI i
     ·have:cutAt (h-szI i) l=0:=by
       rw [show h-szI i=0 from by omega];cases l <;> simp [cutAt]
      rw [this];simp [Ai];omega
     ·omega
    ·have:cutAt (h-szI i) l=0:=by
      rw [b];cases l <;> simp [cutAt]
     rw [this];simp [Ai];omega
theorem AB0:∀ (l:List It) (h:Nat),0<h→h≤Ai l→0<cutAt h l∧Ai (l.take (cutAt h l-1))<h
 | [],h,h0,hu=>by rw [Gi] at hu;omega
 | i :: l,h,h0,hu=>by
   unfold cutAt
   rw [if_neg (by omega)]
   refine ⟨by omega, ?_⟩
   rw [Nat.add_sub_cancel_left];rw [Df] at hu
   by_cases h1:h≤szI i
   ·have:cutAt (h-szI i) l=0:=by
     rw [show h-szI i=0 from by omega];cases l <;> simp [cutAt]
    rw [this];simpa [Ai] using h0
   ·obtain ⟨a,b⟩:=AB0 l (h-szI i) (by omega) (by omega)
    obtain ⟨c,hc⟩:∃ c,cutAt (h-szI i) l=c+1:=⟨_,(Nat.succ_pred_eq_of_pos a).symm⟩;rw [hc] at b ⊢;rw [List.take_succ_cons,Df];have:c+1-1=c:=rfl;rw [this] at b;omega
def Bef (x y:Nd):Prop:=ltK x.lo y.lo∧∀ e∈x.its,ltK e.k y.lo
def FX1 (x:Nd):Prop:=x.its.Pairwise (fun a b=>ltK a.k b.k)∧∀ e∈x.its,leK x.lo e.k
def Wu (L:List Nd):Prop:=L.Pairwise Bef∧∀ x∈L,FX1 x
theorem Nh {A B:List Nd}:Wu (A++B)↔Wu A∧Wu B∧∀ a∈A,∀ b∈B,Bef a b:=by
 unfold Wu;rw [List.pairwise_append]
 constructor
 ·rintro ⟨⟨h1,h2,h3⟩,h4⟩
  exact ⟨⟨h1,fun x hx=>h4 x (List.mem_append_left _ hx)⟩,⟨h2,fun x hx=>h4 x (List.mem_append_right _ hx)⟩,h3⟩
 ·rintro ⟨⟨h1,h2⟩,⟨h3,h4⟩,h5⟩
  exact ⟨⟨h1,h3,h5⟩,fun x hx=>(List.mem_append.1 hx).elim (h2 x) (h4 x)⟩
theorem Ey {x:Nd} {B:List Nd}:Wu (x :: B)↔FX1 x∧Wu B∧∀ b∈B,Bef x b:=by
 unfold Wu;rw [List.pairwise_cons]
 constructor
 ·rintro ⟨⟨h1,h2⟩,h4⟩
  exact ⟨h4 x List.mem_cons_self,⟨h2,fun y hy=>h4 y (List.mem_cons_of_mem _ hy)⟩,h1⟩
 ·rintro ⟨h1,⟨h3,h4⟩,h5⟩
  exact ⟨⟨h5,h3⟩,fun y hy=>(List.mem_cons.1 hy).elim (fun e=>e ▸ h1) (h4 y)⟩
theorem GG0 {A B:List Nd} {l r:Nd} (h:Wu (A++l :: r :: B)) (n:Nat):Wu (A++⟨n,l.lo,l.its++r.its⟩ :: B):=by
 obtain ⟨hA,h1,h2⟩:=Nh.1 h;obtain ⟨sl,h3,h4⟩:=Ey.1 h1;obtain ⟨sr,hB,h5⟩:=Ey.1 h3;have lr:=h4 r List.mem_cons_self
 refine Nh.2 ⟨hA,Ey.2 ⟨⟨List.pairwise_append.2 ⟨sl.1,sr.1,fun a ha b hb=>Jw (lr.2 a ha) (sr.2 b hb)⟩,fun e he=>?_⟩,hB,fun b hb=>⟨(h4 b (List.mem_cons_of_mem _ hb)).1,fun e he=>?_⟩⟩,fun a ha b hb=>?_⟩
 ·rcases List.mem_append.1 he with he | he
  ·exact sl.2 e he
  ·exact He (Jw lr.1 (sr.2 e he))
 ·rcases List.mem_append.1 he with he | he
  ·exact (h4 b (List.mem_cons_of_mem _ hb)).2 e he
  ·exact (h5 b hb).2 e he
 ·rcases List.mem_cons.1 hb with rfl | hb
  ·exact h2 a ha l List.mem_cons_self
  ·exact h2 a ha b (List.mem_cons_of_mem _ (List.mem_cons_of_mem _ hb))
theorem FL0 {A B:List Nd} {x:Nd} {X Y:List It} {y:It} (h:Wu (A++x :: B)) (e:x.its=X++y :: Y) (hX:X≠[]) (n m:Nat):Wu (A++⟨n,x.lo,X⟩ :: ⟨m,y.k,y :: Y⟩ :: B):=by
 obtain ⟨hA,h1,h2⟩:=Nh.1 h;obtain ⟨sx,hB,h4⟩:=Ey.1 h1;obtain ⟨s1,s2⟩:=sx;rw [e] at s1 s2;obtain ⟨p1,p2,p3⟩:=List.pairwise_append.1 s1;obtain ⟨p4,p5⟩:=List.pairwise_cons.1 p2
 have hxy:ltK x.lo y.k:=by
  cases X with
  | nil=>exact absurd rfl hX
  | cons a X=>exact DK0 (s2 a (by simp)) (p3 a (by simp) y (by simp))
 have hl:∀ b∈B,Bef ⟨n,x.lo,X⟩ b:=fun b hb=>⟨(h4 b hb).1,fun e he=>(h4 b hb).2 e (by rw [‹x.its=_›];exact List.mem_append_left _ he)⟩
 have hr:∀ b∈B,Bef ⟨m,y.k,y :: Y⟩ b:=fun b hb=>⟨(h4 b hb).2 y (by rw [e];simp),fun e he=>(h4 b hb).2 e (by rw [‹x.its=_›];exact List.mem_append_right _ he)⟩
 refine Nh.2 ⟨hA,Ey.2 ⟨⟨p1,fun e he=>s2 e (List.mem_append_left _ he)⟩,Ey.2 ⟨⟨p2,fun e he=>?_⟩,hB,hr⟩,fun b hb=>?_⟩,fun a ha b hb=>?_⟩
 ·rcases List.mem_cons.1 he with rfl | he
  ·exact Qs _
  ·exact He (p4 e he)
 ·rcases List.mem_cons.1 hb with rfl | hb
  ·exact ⟨hxy,fun e he=>p3 e he y List.mem_cons_self⟩
  ·exact hl b hb
 ·have ax:=h2 a ha x List.mem_cons_self
  rcases List.mem_cons.1 hb with rfl | hb
  ·exact ax
  ·rcases List.mem_cons.1 hb with rfl | hb
   ·exact ⟨Jo ax.1 hxy,fun e he=>Jo (ax.2 e he) hxy⟩
   ·exact h2 a ha b (List.mem_cons_of_mem _ hb)
theorem BA1 {A B:List Nd} {x:Nd} {X:List It} (h:Wu (A++x :: B)) (h1:X.Pairwise (fun a b=>ltK a.k b.k)) (h2:∀ e∈X,leK x.lo e.k) (h3:∀ e∈X,∀ b∈B,ltK e.k b.lo) (n:Nat):Wu (A++⟨n,x.lo,X⟩ :: B):=by
 obtain ⟨hA,h4,h5⟩:=Nh.1 h;obtain ⟨sx,hB,h6⟩:=Ey.1 h4
 refine Nh.2 ⟨hA,Ey.2 ⟨⟨h1,h2⟩,hB,fun b hb=>⟨(h6 b hb).1,fun e he=>h3 e he b hb⟩⟩,fun a ha b hb=>?_⟩
 rcases List.mem_cons.1 hb with rfl | hb
 ·exact h5 a ha x List.mem_cons_self
 ·exact h5 a ha b (List.mem_cons_of_mem _ hb)
theorem DB1 {L D:List Nd} (h:Wu D) (e:L.flatMap (·.its)=D.map Dl) (hh:∀ x∈L,x.its.head?.map (·.k)=some x.lo):Wu L:=by
 have hp:(L.flatMap (·.its)).Pairwise (fun a b=>ltK a.k b.k):=by
  rw [e,List.pairwise_map]
  exact h.1.imp fun h=>h.1
 rw [List.flatMap_def,List.pairwise_flatten,List.pairwise_map] at hp;obtain ⟨p1,p2⟩:=hp
 have hd:∀ x∈L,∃ i r,x.its=i :: r∧i.k=x.lo:=fun x hx=>by
  have:=hh x hx
  cases hi:x.its with
  | nil=>rw [hi] at this;simp at this
  | cons i r=>rw [hi] at this;exact ⟨i,r,rfl,by simpa using this⟩
 refine ⟨?_,fun x hx=>⟨p1 _ (List.mem_map_of_mem hx),fun e2 he2=>?_⟩⟩
 ·refine List.Pairwise.imp_of_mem (fun {a b} ha hb hab=>?_) p2
  obtain ⟨i,r,h1,h2⟩:=hd a ha;obtain ⟨j,s,h3,h4⟩:=hd b hb;rw [h3] at hab
  refine ⟨?_,fun e2 he2=>?_⟩
  ·rw [← h2,← h4];exact hab i (by rw [h1];exact List.mem_cons_self) j List.mem_cons_self
  ·rw [← h4];exact hab e2 he2 j List.mem_cons_self
 ·obtain ⟨i,r,h1,h2⟩:=hd x hx
  have h5:=p1 _ (List.mem_map_of_mem hx);rw [h1] at h5 he2;rw [← h2]
  rcases List.mem_cons.1 he2 with rfl | he2
  ·exact Qs _
  ·exact He ((List.pairwise_cons.1 h5).1 e2 he2)
def hdN:List Nd→Nat→Nat
 | [],m=>m
 | y :: _,_=>y.n
theorem OW0 (A B:List Nd) (m:Nat):hdN (A++B) m=hdN A (hdN B m):=by cases A <;> rfl
def AS0 (G:Nat→Pg) (f:Nat):List Nd→Nat→Prop
 | [],_=>True
 | x :: l,m=>(x.n≠f→G x.n=(1,hdN l m,x.its.map Af))∧AS0 G f l m
theorem Je {G:Nat→Pg} {f:Nat}:∀ {A B:List Nd} {m:Nat},AS0 G f (A++B) m↔AS0 G f A (hdN B m)∧AS0 G f B m
 | [],_,_=>⟨fun h=>⟨trivial,h⟩,fun h=>h.2⟩
 | x :: A,B,m=>by
   rw [List.cons_append,AS0,AS0,Je,OW0];exact and_assoc.symm
theorem Js {G G':Nat→Pg} {f f':Nat}:∀ {A:List Nd} {m:Nat},AS0 G f A m→(∀ x∈A,x.n≠f'→x.n≠f∧G' x.n=G x.n)→AS0 G' f' A m
 | [],_,_,_=>trivial
 | x :: A,m,h,hc=>⟨fun hx=>by obtain ⟨a,b⟩:=hc x List.mem_cons_self hx;rw [b];exact h.1 a,Js h.2 fun y hy=>hc y (List.mem_cons_of_mem _ hy)⟩
def body (b:Bool) (l:List It):List It:=if b then l else l.drop 1
def Yr (x:Nd):Pg:=(2,Dz (x.its.headD ⟨[],[]⟩).r,(x.its.drop 1).map Af)
structure TH0 (b:Bool) (root:Nat) (x:Nd):Prop where
 le:Ai (body b x.its)≤1012
 ge:x.n≠root→180≤Ai (body b x.its)
 two:b=false→2≤x.its.length
structure MD0 (i:It):Prop where
 pos:1≤i.k.length
 le:i.k.length≤200
 sz:szI i≤244
structure Hy (G:Nat→Pg) (f root:Nat) (L:List Nd):Prop where
 ord:Wu L
 keys:∀ x∈L,∀ i∈x.its,MD0 i
 MU0:∀ x∈L,x.lo.length≤200
 pages:AS0 G f L 0
 fit:∀ x∈L,x.n≠f→TH0 true root x
structure VO0 (G:Nat→Pg) (f root:Nat) (L D:List Nd):Prop where
 its:L.flatMap (·.its)=D.map Dl
 head:∀ x∈L,x.its.head?.map (·.k)=some x.lo
 pages:∀ x∈L,x.n≠f→G x.n=Yr x
 fit:∀ x∈L,x.n≠f→TH0 false root x
def Dwn (G:Nat→Pg) (f root:Nat):List Nd→List (List Nd)→Prop
 | L,[]=>Hy G f root L
 | L,D :: r=>VO0 G f root L D∧Dwn G f root D r
theorem Dwn.ord {G:Nat→Pg} {f root:Nat}:∀ {Ds:List (List Nd)} {L:List Nd},Dwn G f root L Ds→Wu L
 | [],_,h=>Hy.ord h
 | _ :: _,_,h=>DB1 (Dwn.ord h.2) h.1.its h.1.head
theorem Dwn.MU0 {G:Nat→Pg} {f root:Nat}:∀ {Ds:List (List Nd)} {L:List Nd},Dwn G f root L Ds→∀ x∈L,x.lo.length≤200
 | [],_,h=>Hy.MU0 h
 | D :: _,L,h=>fun x hx=>by
   have h1:=h.1.head x hx
   cases hi:x.its with
   | nil=>rw [hi] at h1;simp at h1
   | cons i r =>
     rw [hi] at h1
     have h2:i∈L.flatMap (·.its):=List.mem_flatMap.2 ⟨x,hx,by rw [hi];exact List.mem_cons_self⟩
     rw [h.1.its] at h2;obtain ⟨y,hy,h3⟩:=List.mem_map.1 h2
     have h4:i.k=x.lo:=by simpa using h1
     rw [← h4,← h3];exact Dwn.MU0 h.2 y hy
def Ei:List Nd→List (List Nd)→List Nat
 | L,[]=>L.map (·.n)
 | L,D :: r=>L.map (·.n)++Ei D r
theorem Bg {L:List Nd} {x:Nd} (hx:x∈L):∀ (Ds:List (List Nd)),x.n∈Ei L Ds
 | []=>List.mem_map_of_mem hx
 | _ :: _=>List.mem_append_left _ (List.mem_map_of_mem hx)
theorem Hy.congr {G G':Nat→Pg} {f f' root:Nat} {L:List Nd} (h:Hy G f root L) (hc:∀ x∈L,x.n≠f'→x.n≠f∧G' x.n=G x.n):Hy G' f' root L :=
 ⟨h.ord,h.keys,h.MU0,Js h.pages hc,fun x hx hf=>h.fit x hx (hc x hx hf).1⟩
theorem VO0.congr {G G':Nat→Pg} {f f' root:Nat} {L D:List Nd} (h:VO0 G f root L D) (hc:∀ x∈L,x.n≠f'→x.n≠f∧G' x.n=G x.n):VO0 G' f' root L D :=
 ⟨h.its,h.head,fun x hx hf=>by obtain ⟨a,b⟩:=hc x hx hf;rw [b];exact h.pages x hx a,fun x hx hf=>h.fit x hx (hc x hx hf).1⟩
theorem Dwn.congr {G G':Nat→Pg} {f f' root:Nat}:∀ {Ds:List (List Nd)} {L:List Nd},Dwn G f root L Ds→(∀ p∈Ei L Ds,p≠f'→p≠f∧G' p=G p)→Dwn G' f' root L Ds
 | [],_,h,hc=>Hy.congr h fun x hx=>hc _ (Bg hx [])
 | D :: r,L,h,hc=>⟨h.1.congr fun x hx=>hc _ (List.mem_append_left _ (List.mem_map_of_mem hx)),Dwn.congr h.2 fun p hp=>hc p (List.mem_append_right _ hp)⟩
structure Seg (G G':Nat→Pg) (f f' root:Nat) (A M M' B:List Nd) (Ds:List (List Nd)):Prop where
 its:M'.flatMap (·.its)=M.flatMap (·.its)
 ord:Wu (A++M'++B)
 MU0:∀ x∈M',x.lo.length≤200
 hd:A≠[]→∀ m,hdN M' m=hdN M m
 head:Ds≠[]→∀ x∈M',x.its.head?.map (·.k)=some x.lo
 leaf:Ds=[]→AS0 G' f' M' (hdN B 0)
 inn:Ds≠[]→∀ x∈M',x.n≠f'→G' x.n=Yr x
 fit:∀ x∈M',x.n≠f'→TH0 Ds.isEmpty root x
theorem Dwn.seg {G G':Nat→Pg} {f f' root:Nat} {A M M' B:List Nd} {Ds:List (List Nd)} (h:Dwn G f root (A++M++B) Ds) (s:Seg G G' f f' root A M M' B Ds)
 (hc:∀ x∈A++B,x.n≠f'→x.n≠f∧G' x.n=G x.n) (hd:∀ D r,Ds=D :: r→∀ p∈Ei D r,p≠f'→p≠f∧G' p=G p):Dwn G' f' root (A++M'++B) Ds:=by
 have mA:∀ x∈A,x∈A++M++B:=fun x hx=>by simp [hx]
 have mB:∀ x∈B,x∈A++M++B:=fun x hx=>by simp [hx]
 have cA:∀ x∈A,x.n≠f'→x.n≠f∧G' x.n=G x.n:=fun x hx=>hc x (List.mem_append_left _ hx)
 have cB:∀ x∈B,x.n≠f'→x.n≠f∧G' x.n=G x.n:=fun x hx=>hc x (List.mem_append_right _ hx)
 have three:∀ {p:Nd→Prop},(∀ x∈A,p x)→(∀ x∈M',p x)→(∀ x∈B,p x)→∀ x∈A++M'++B,p x:=fun h1 h2 h3 x hx=>by
  rcases List.mem_append.1 hx with hx | hx
  ·exact (List.mem_append.1 hx).elim (h1 x) (h2 x)
  ·exact h3 x hx
 cases Ds with
 | nil =>
   obtain ⟨ho,hk,hl,hp,hf⟩:=h;rw [List.append_assoc] at hp;obtain ⟨q1,q2⟩:=Je.1 hp;obtain ⟨q3,q4⟩:=Je.1 q2
   refine ⟨s.ord,fun x hx i hi=>?_,three (fun x hx=>hl x (mA x hx)) s.MU0 (fun x hx=>hl x (mB x hx)), ?_,three (fun x hx hn=>hf x (mA x hx) (cA x hx hn).1) s.fit (fun x hx hn=>hf x (mB x hx) (cB x hx hn).1)⟩
   ·have:i∈(A++M++B).flatMap (·.its):=by
     have h1:i∈(A++M'++B).flatMap (·.its):=List.mem_flatMap.2 ⟨x,hx,hi⟩
     rw [List.flatMap_append,List.flatMap_append,s.its] at h1;rw [List.flatMap_append,List.flatMap_append];exact h1
    obtain ⟨y,hy,hyi⟩:=List.mem_flatMap.1 this;exact hk y hy i hyi
   ·rw [List.append_assoc]
    refine Je.2 ⟨Js ?_ cA,Je.2 ⟨s.leaf rfl,Js q4 cB⟩⟩
    by_cases hA:A=[]
    ·subst hA;trivial
    ·rw [OW0,s.hd hA,← OW0]
     exact q1
 | cons D r =>
   obtain ⟨⟨h1,h2,h3,h4⟩,h5⟩:=h
   refine ⟨⟨?_,three (fun x hx=>h2 x (mA x hx)) (s.head (by simp)) (fun x hx=>h2 x (mB x hx)),three (fun x hx hn=>?_) (s.inn (by simp)) (fun x hx hn=>?_),three (fun x hx hn=>h4 x (mA x hx) (cA x hx hn).1) s.fit (fun x hx hn=>h4 x (mB x hx) (cB x hx hn).1)⟩,h5.congr (hd D r rfl)⟩
   ·rw [← h1,List.flatMap_append,List.flatMap_append,s.its,List.flatMap_append,List.flatMap_append]
   ·obtain ⟨a,b⟩:=cA x hx hn;rw [b];exact h3 x (mA x hx) a
   ·obtain ⟨a,b⟩:=cB x hx hn;rw [b];exact h3 x (mB x hx) a
structure UpR where
 A:List Nd
 y:Nd
 U:List It
 V:List It
 B:List Nd
def UpR.lv (u:UpR):List Nd:=u.A++u.y :: u.B
structure YG0 (G:Nat→Pg) (f root:Nat) (A M B:List Nd) (u:UpR):Prop where
 its:u.y.its=u.U++M.map Dl++u.V
 left:u.A.flatMap (·.its)++u.U=A.map Dl
 right:u.V++u.B.flatMap (·.its)=B.map Dl
 head:∀ x∈u.lv,x.its.head?.map (·.k)=some x.lo
 pages:∀ x∈u.lv,x.n≠f→G x.n=Yr x
 fit:∀ x∈u.lv,x.n≠f→TH0 false root x
def Abv (G:Nat→Pg) (f root:Nat):List Nd→Nd→List Nd→List UpR→Prop
 | A,x,B,[]=>A=[]∧B=[]∧x.n=root∧x.lo=[]
 | A,x,B,u :: r=>YG0 G f root A [x] B u∧Abv G f root u.A u.y u.B r
def Xc:List UpR→List Nat
 | []=>[]
 | u :: r=>u.lv.map (·.n)++Xc r
theorem YG0.inn {G:Nat→Pg} {f root:Nat} {A M B:List Nd} {u:UpR} (h:YG0 G f root A M B u):VO0 G f root u.lv (A++M++B):=by
 refine ⟨?_,h.head,h.pages,h.fit⟩
 unfold UpR.lv;rw [List.flatMap_append,List.flatMap_cons,h.its,List.map_append,List.map_append,← h.left,← h.right];simp only [List.append_assoc]
theorem YG0.congr {G G':Nat→Pg} {f f' root:Nat} {A B:List Nd} {x x':Nd} {u:UpR} (h:YG0 G f root A [x] B u) (hc:∀ p∈u.lv.map (·.n),p≠f'→p≠f∧G' p=G p) (h1:x'.n=x.n) (h2:x'.lo=x.lo):YG0 G' f' root A [x'] B u:=by
 have e:Dl x'=Dl x:=by unfold Dl;rw [h1,h2]
 refine ⟨by rw [h.its,List.map_cons,List.map_cons,e],h.left,h.right,h.head,fun z hz hn=>?_,fun z hz hn=>h.fit z hz (hc z.n (List.mem_map_of_mem hz) hn).1⟩
 obtain ⟨a,b⟩:=hc z.n (List.mem_map_of_mem hz) hn;rw [b];exact h.pages z hz a
theorem Abv.congr {G G':Nat→Pg} {f f' root:Nat}:∀ {ups:List UpR} {A B:List Nd} {x x':Nd},Abv G f root A x B ups→(∀ p∈Xc ups,p≠f'→p≠f∧G' p=G p)→x'.n=x.n→x'.lo=x.lo→Abv G' f' root A x' B ups
 | [],_,_,_,_,h,_,h1,h2=>⟨h.1,h.2.1,h1.trans h.2.2.1,h2.trans h.2.2.2⟩
 | u :: r,_,_,_,_,h,hc,h1,h2=>⟨h.1.congr (fun p hp=>hc p (List.mem_append_left _ hp)) h1 h2,Abv.congr h.2 (fun p hp=>hc p (List.mem_append_right _ hp)) rfl rfl⟩
def Tre (G:Nat→Pg) (root:Nat) (x:Nd) (Ds:List (List Nd)):Prop:=Dwn G 0 root [x] Ds∧x.n=root∧x.lo=[]
def BC1:List Nd→Nd→List Nd→List (List Nd)→List UpR→Nd×List (List Nd)
 | _,x,_,Ds,[]=>(x,Ds)
 | A,x,B,Ds,u :: r=>BC1 u.A u.y u.B ((A++x :: B) :: Ds) r
theorem WQ0 {G:Nat→Pg} {root:Nat}:∀ {ups:List UpR} {A B:List Nd} {x:Nd} {Ds:List (List Nd)},Dwn G 0 root (A++x :: B) Ds→Abv G 0 root A x B ups→Tre G root (BC1 A x B Ds ups).1 (BC1 A x B Ds ups).2
 | [],_,_,x,Ds,h,k=>by
   obtain ⟨rfl,rfl,h1,h2⟩:=k;exact ⟨h,h1,h2⟩
 | u :: r,A,B,x,Ds,h,k=>WQ0 (ups:=r) ⟨by have:=k.1.inn;rw [List.append_assoc] at this;exact this,h⟩ k.2
theorem DP0 {G:Nat→Pg} {f root:Nat}:∀ {ups:List UpR} {A B:List Nd} {x:Nd} {Ds:List (List Nd)},Abv G f root A x B ups→(Ei [(BC1 A x B Ds ups).1] (BC1 A x B Ds ups).2).Perm (Ei (A++x :: B) Ds++Xc ups)
 | [],_,_,x,Ds,k=>by
   obtain ⟨rfl,rfl,_⟩:=k
   show List.Perm (Ei [x] Ds) (Ei [x] Ds++[])
   rw [List.append_nil]
 | u :: r,A,B,x,Ds,k=>by
   refine (DP0 (ups:=r) (A:=u.A) (B:=u.B) (x:=u.y) (Ds:=(A++x :: B) :: Ds) k.2).trans ?_
   show List.Perm ((u.lv.map (·.n)++Ei (A++x :: B) Ds)++Xc r) (Ei (A++x :: B) Ds++(u.lv.map (·.n)++Xc r))
   rw [← List.append_assoc (Ei _ _)];exact List.Perm.append_right _ List.perm_append_comm
def Ig:List Nd→List (List Nd)→List It
 | L,[]=>L.flatMap (·.its)
 | _,D :: r=>Ig D r
theorem BB0 {G:Nat→Pg} {f root:Nat}:∀ {ups:List UpR} {A B:List Nd} {x:Nd} {Ds:List (List Nd)},Abv G f root A x B ups→Ig [(BC1 A x B Ds ups).1] (BC1 A x B Ds ups).2=Ig (A++x :: B) Ds
 | [],_,_,x,Ds,k=>by obtain ⟨rfl,rfl,_⟩:=k;rfl
 | u :: r,A,B,x,Ds,k=>BB0 (ups:=r) k.2
def pgN (leaf:Bool) (B:List Nd) (x:Nd):Pg:=if leaf then (1,hdN B 0,x.its.map Af) else Yr x
def Hm (G:Nat→Pg) (n:Nat) (p:Pg):Nat→Pg:=fun m=>if m=n then p else G m
theorem Dj {G:Nat→Pg} {n:Nat} {p:Pg}:Hm G n p n=p:=if_pos rfl
theorem Aq {G:Nat→Pg} {n m:Nat} {p:Pg} (h:m≠n):Hm G n p m=G m:=if_neg h
def Eh (L:List Nd) (Ds:List (List Nd)) (ups:List UpR):List Nat:=Ei L Ds++Xc ups
theorem Jr (L:List Nd) (Ds:List (List Nd)):∃ R,Ei L Ds=L.map (·.n)++R∧∀ D r,Ds=D :: r→R=Ei D r:=by
 cases Ds with
 | nil=>exact ⟨[],(List.append_nil _).symm,fun _ _ h=>by cases h⟩
 | cons D r=>exact ⟨Ei D r,rfl,fun _ _ h=>by cases h;rfl⟩
theorem Yd {A B:List Nat} {R:List Nat} {x:Nat} (h:(A++x :: B++R).Nodup):x∉A∧x∉B∧x∉R:=by
 simp only [List.append_assoc,List.cons_append,List.nodup_append,List.nodup_cons,List.mem_append,List.mem_cons] at h;obtain ⟨h1,⟨h2,h3⟩,h4⟩:=h
 exact ⟨fun hx=>h4 x hx x (.inl rfl) rfl,fun hx=>h2 (.inl hx),fun hx=>h2 (.inr hx)⟩
theorem QW0 {G:Nat→Pg} {root:Nat} {A B:List Nd} {x:Nd} {Ds:List (List Nd)} {ups:List UpR} (h:Dwn G x.n root (A++x :: B) Ds) (k:Abv G x.n root A x B ups) (nd:(Eh (A++x :: B) Ds ups).Nodup) (hf:TH0 Ds.isEmpty root x) :
 Dwn (Hm G x.n (pgN Ds.isEmpty B x)) 0 root (A++x :: B) Ds∧Abv (Hm G x.n (pgN Ds.isEmpty B x)) 0 root A x B ups:=by
 obtain ⟨R,e1,e2⟩:=Jr (A++x :: B) Ds
 have nd2:((A.map (·.n))++x.n :: (B.map (·.n))++(R++Xc ups)).Nodup:=by
  have:=nd;unfold Eh at this;rw [e1] at this
  simpa [List.map_append,List.append_assoc] using this
 obtain ⟨n1,n2,n3⟩:=Yd nd2
 have hne:∀ p,p∉[x.n]→p≠0→p≠x.n∧Hm G x.n (pgN Ds.isEmpty B x) p=G p:=fun p hp _=>⟨fun e=>hp (by rw [e];exact List.mem_singleton.2 rfl),Aq fun e=>hp (by rw [e];exact List.mem_singleton.2 rfl)⟩
 have hin:∀ {l:List Nat},x.n∉l→∀ p∈l,p≠0→p≠x.n∧Hm G x.n (pgN Ds.isEmpty B x) p=G p:=fun hl p hp h0=>hne p (fun e=>hl (by rw [← List.mem_singleton.1 e];exact hp)) h0
 constructor
 ·have:=Dwn.seg (G':=Hm G x.n (pgN Ds.isEmpty B x)) (f':=0) (A:=A) (M:=[x]) (M':=[x]) (B:=B) (by simpa using h) ⟨rfl,by have:=h.ord;simpa using this,fun z hz=>h.MU0 z (by rw [List.mem_singleton.1 hz];simp),fun _ _=>rfl,fun hD z hz=>?_,fun hD=>?_,fun hD z hz _=>?_,fun z hz _=>by rw [List.mem_singleton.1 hz];exact hf⟩
   (fun z hz=>?_) (fun D r hD=>?_)
  ·simpa using this
  ·cases Ds with
   | nil=>exact absurd rfl hD
   | cons D r=>exact h.1.head z (by rw [List.mem_singleton.1 hz];simp)
  ·subst hD
   exact ⟨fun _=>Dj,trivial⟩
  ·rw [List.mem_singleton.1 hz,Dj]
   unfold pgN
   cases Ds with
   | nil=>exact absurd rfl hD
   | cons D r=>rfl
  ·rcases List.mem_append.1 hz with hz | hz
   ·exact hin n1 z.n (List.mem_map_of_mem hz)
   ·exact hin n2 z.n (List.mem_map_of_mem hz)
  ·rw [← e2 D r hD]
   exact hin fun hx=>n3 (List.mem_append_left _ hx)
 ·exact k.congr (hin fun hx=>n3 (List.mem_append_right _ hx)) rfl rfl
theorem EO1 {G G':Nat→Pg} {f root:Nat} {A M M' B:List Nd} {Ds:List (List Nd)} {u:UpR} {r:List UpR} (h:Dwn G f root (A++M++B) Ds) (hu:YG0 G f root A M B u) (k:Abv G f root u.A u.y u.B r)
 (s:Seg G G' f u.y.n root A M M' B Ds) (hne:M≠[]) (hlo:M'.head?.map (·.lo)=M.head?.map (·.lo))
 (hAB:∀ x∈A++B,x.n≠f∧G' x.n=G x.n) (hR:∀ D t,Ds=D :: t→∀ p∈Ei D t,p≠f∧G' p=G p) (hU:∀ p∈u.A.map (·.n)++u.B.map (·.n)++Xc r,p≠f∧G' p=G p) :
 Dwn G' u.y.n root (u.A++(⟨u.y.n,u.y.lo,u.U++M'.map Dl++u.V⟩:Nd) :: u.B) ((A++M'++B) :: Ds)∧Abv G' u.y.n root u.A (⟨u.y.n,u.y.lo,u.U++M'.map Dl++u.V⟩:Nd) u.B r:=by
 have hd:=h.seg s (fun x hx _=>hAB x hx) (fun D t hD p hp _=>hR D t hD p hp)
 have mA:∀ x∈u.A,x∈u.lv:=fun x hx=>List.mem_append_left _ hx
 have mB:∀ x∈u.B,x∈u.lv:=fun x hx=>List.mem_append_right _ (List.mem_cons_of_mem _ hx)
 have three:∀ {p:Nd→Prop} {y:Nd},(∀ x∈u.A,p x)→p y→(∀ x∈u.B,p x)→∀ x∈u.A++y :: u.B,p x:=fun h1 h2 h3 x hx=>by
  rcases List.mem_append.1 hx with hx | hx
  ·exact h1 x hx
  ·exact (List.mem_cons.1 hx).elim (fun e=>e ▸ h2) (h3 x)
 refine ⟨⟨⟨?_,three (fun x hx=>hu.head x (mA x hx)) ?_ (fun x hx=>hu.head x (mB x hx)),three (fun x hx hn=>?_) (fun hn=>absurd rfl hn) (fun x hx hn=>?_),three (fun x hx hn=>?_) (fun hn=>absurd rfl hn) (fun x hx hn=>?_)⟩,hd⟩,k.congr (fun p hp _=>hU p (List.mem_append_right _ hp)) rfl rfl⟩
 ·rw [List.flatMap_append,List.flatMap_cons,List.map_append,List.map_append,← hu.left,← hu.right]
  simp only [List.append_assoc]
 ·have h1:=hu.head u.y (List.mem_append_right _ List.mem_cons_self)
  rw [hu.its] at h1
  cases hU2:u.U with
  | cons i U=>rw [hU2] at h1;simpa using h1
  | nil =>
    rw [hU2] at h1
    cases M with
    | nil=>exact absurd rfl hne
    | cons m M =>
      cases M' with
      | nil=>simp at hlo
      | cons m' M' =>
        have e:m'.lo=m.lo:=by simpa using hlo
        have h2:(Dl m).k=u.y.lo:=by simpa using h1
        show some (Dl m').k=some u.y.lo
        rw [← h2];exact congrArg some e
 ·obtain ⟨a,b⟩:=hU x.n (List.mem_append_left _ (List.mem_append_left _ (List.mem_map_of_mem hx)))
  rw [b];exact hu.pages x (mA x hx) a
 ·obtain ⟨a,b⟩:=hU x.n (List.mem_append_left _ (List.mem_append_right _ (List.mem_map_of_mem hx)))
  rw [b];exact hu.pages x (mB x hx) a
 ·exact hu.fit x (mA x hx) (hU x.n (List.mem_append_left _ (List.mem_append_left _ (List.mem_map_of_mem hx)))).1
 ·exact hu.fit x (mB x hx) (hU x.n (List.mem_append_left _ (List.mem_append_right _ (List.mem_map_of_mem hx)))).1
def spl (b:Bool) (l:List It):Nat:=cutAt (Ai (body b l) / 2) (body b l)
structure Halves (b:Bool) (X Y:List It):Prop where
 l1:180≤Ai (body b X)
 l2:Ai (body b X)≤1012
 r1:180≤Ai (body b Y)
 r2:Ai (body b Y)≤1012
 x2:b=false→2≤X.length
 y2:b=false→2≤Y.length
theorem XR0 {l:List It} (h:180≤Ai l):l≠[]:=fun e=>by rw [e,Gi] at h;omega
theorem IC0 {c:List It} (h1:1012<Ai c) (h2:Ai c≤1404) (hs:∀ i∈c,szI i≤244):∃ k,cutAt (Ai c / 2) c=k+1∧k+1≤c.length∧180≤Ai (c.take (k+1))∧Ai (c.take (k+1))≤1012∧180≤Ai (c.drop (k+1))∧Ai (c.drop (k+1))≤1012∧180≤Ai (c.take k)∧Ai (c.take k)≤1012:=by
 obtain ⟨a1,a2⟩:=FP0 c (Ai c / 2) (by omega)
 obtain ⟨c1,c2⟩:=AB0 c (Ai c / 2) (by omega) (by omega)
 have hle:=QZ0 (Ai c / 2) c
 have a3:Ai (c.take (cutAt (Ai c / 2) c))≤Ai c / 2+243:=by
  rcases a2 244 hs with h | h
  ·exact h
  ·omega
 obtain ⟨k,hk⟩:∃ k,cutAt (Ai c / 2) c=k+1:=⟨_,(Nat.succ_pred_eq_of_pos c1).symm⟩;rw [hk] at a1 a3 c2 hle;have hk2:k+1-1=k:=rfl;rw [hk2] at c2
 have hsum:Ai (c.take (k+1))+Ai (c.drop (k+1))=Ai c:=by rw [← Dw,List.take_append_drop]
 have hlast:Ai (c.take (k+1))=Ai (c.take k)+szI c[k]:=by
  rw [List.take_succ_eq_append_getElem (by omega),Dw,Df,Gi];rfl
 have hsz:=hs c[k] (List.getElem_mem _)
 exact ⟨k,hk,hle,by omega,by omega,by omega,by omega,by omega,by omega⟩
theorem Uo {b:Bool} {l:List It} (h1:1012<Ai (body b l)) (h2:Ai (body b l)≤1404) (hs:∀ i∈body b l,szI i≤244):Halves b (l.take (spl b l)) (l.drop (spl b l))∧0<spl b l∧spl b l≤(body b l).length:=by
 obtain ⟨k,hk,hle,p1,p2,p3,p4,p5,p6⟩:=IC0 h1 h2 hs;have hsp:spl b l=k+1:=hk;rw [hsp]
 refine ⟨?_,Nat.succ_pos _,hle⟩
 cases b with
 | true=>exact ⟨p1,p2,p3,p4,(fun h=>by cases h),(fun h=>by cases h)⟩
 | false =>
   cases l with
   | nil=>simp [body,Ai] at h1
   | cons i cs =>
     have eY2:(cs.drop k).drop 1=cs.drop (k+1):=by rw [List.drop_drop]
     have y1:180≤Ai ((cs.drop k).drop 1):=by rw [eY2];exact p3
     refine ⟨p5,p6,y1, ?_,fun _=>?_,fun _=>?_⟩
     ·show Ai ((cs.drop k).drop 1)≤1012;rw [eY2];exact p4
     ·have:0<(cs.take k).length:=List.length_pos_iff.2 (XR0 p5)
      simp only [List.take_succ_cons,List.length_cons];omega
     ·have:0<((cs.drop k).drop 1).length:=List.length_pos_iff.2 (XR0 y1)
      rw [List.length_drop] at this;simp only [List.drop_succ_cons];omega
theorem Halves.GB1 {b:Bool} {X Y:List It} (h:Halves b X Y) (n:Nat) (lo:Ky) (root:Nat):TH0 b root ⟨n,lo,X⟩:=⟨h.l2,fun _=>h.l1,h.x2⟩
theorem Halves.FZ1 {b:Bool} {X Y:List It} (h:Halves b X Y) (n:Nat) (lo:Ky) (root:Nat):TH0 b root ⟨n,lo,Y⟩:=⟨h.r2,fun _=>h.r1,h.y2⟩
theorem II0 {b:Bool} {l:List It} {i:It} (h:i∈body b l):i∈l:=by
 cases b
 ·exact List.mem_of_mem_drop h
 ·exact h
theorem HE0 {b:Bool} {X Y:List It} (h:b=false→X≠[]):body b (X++Y)=body b X++Y:=by
 cases b with
 | true=>rfl
 | false =>
   cases X with
   | nil=>exact absurd rfl (h rfl)
   | cons i X=>rfl
theorem ZX0 (b:Bool) (l:List It):Ai (body b l)≤Ai l:=by
 cases b with
 | true=>exact Nat.le_refl _
 | false =>
   cases l with
   | nil=>exact Nat.le_refl _
   | cons i l=>rw [Df];exact Nat.le_add_left _ _
theorem fourL_len (n:Nat):(Ak n).length=4:=rfl
theorem Halves.ne {b:Bool} {X Y:List It} (h:Halves b X Y):X≠[]∧Y≠[]:=⟨fun e=>by have:=h.l1;rw [e] at this;cases b <;> simp [body,Ai] at this,fun e=>by have:=h.r1;rw [e] at this;cases b <;> simp [body,Ai] at this⟩
theorem Dwn.sz {G:Nat→Pg} {f root:Nat} {L:List Nd} {Ds:List (List Nd)} (h:Dwn G f root L Ds) {x:Nd} (hx:x∈L) {i:It} (hi:i∈x.its):szI i≤244∧i.k.length≤200∧(Ds≠[]→i.r.length=4):=by
 cases Ds with
 | nil=>exact ⟨(h.keys x hx i hi).sz,(h.keys x hx i hi).le,fun e=>absurd rfl e⟩
 | cons D r =>
   have h2:i∈L.flatMap (·.its):=List.mem_flatMap.2 ⟨x,hx,hi⟩
   rw [h.1.its] at h2;obtain ⟨y,hy,h3⟩:=List.mem_map.1 h2;have h4:=Dwn.MU0 h.2 y hy;rw [← h3]
   refine ⟨?_,h4,fun _=>rfl⟩
   unfold szI Dl;simp only [fourL_len];omega
theorem UM0 {A B R:List Nat} {x y:Nat} (h:(A++x :: y :: B++R).Nodup):x≠y∧(∀ p,p∈A∨p∈B∨p∈R→p≠x∧p≠y):=by
 simp only [List.append_assoc,List.cons_append,List.nodup_append,List.nodup_cons,List.mem_append,List.mem_cons] at h;obtain ⟨h1,⟨h2,h3,h4⟩,h5⟩:=h
 refine ⟨fun e=>h2 (.inl e),fun p hp=>?_⟩
 rcases hp with hp | hp
 ·exact ⟨h5 p hp x (.inl rfl),h5 p hp y (.inr (.inl rfl))⟩
 ·exact ⟨fun e=>h2 (by rw [← e];exact .inr hp),fun e=>h3 (by rw [← e];exact hp)⟩
theorem Jk {G:Nat→Pg} {f root:Nat} {A B:List Nd} {M:List Nd} {Ds:List (List Nd)} (h:Dwn G f root (A++M++B) Ds) (hD:Ds≠[]):∀ x∈M,x.its.head?.map (·.k)=some x.lo:=fun x hx=>by
 cases Ds with
 | nil=>exact absurd rfl hD
 | cons D r=>exact h.1.head x (by simp [hx])
theorem KL0 {G:Nat→Pg} {f root m:Nat} {A B M:List Nd} {x:Nd} {X Y:List It} {y:It} {Ds:List (List Nd)} (h:Dwn G f root (A++M++B) Ds) (hM:M.flatMap (·.its)=X++y :: Y) (hX:X≠[]) (hx:M.head?.map (·.lo)=some x.lo) (hn:A≠[]→∀ m,hdN M m=x.n)
 (ho:Wu (A++(⟨x.n,x.lo,X++y :: Y⟩:Nd) :: B)) (hf:Halves Ds.isEmpty X (y :: Y)) (f':Nat) {G':Nat→Pg} (g1:G' x.n=pgN Ds.isEmpty (⟨m,y.k,y :: Y⟩ :: B) ⟨x.n,x.lo,X⟩) (g2:G' m=pgN Ds.isEmpty B ⟨m,y.k,y :: Y⟩) (hy:y.k.length≤200) (hl:x.lo.length≤200) (hh:Ds≠[]→X.head?.map (·.k)=some x.lo) :
 Seg G G' f f' root A M [⟨x.n,x.lo,X⟩,⟨m,y.k,y :: Y⟩] B Ds:=by
 refine ⟨by rw [hM];simp, ?_,fun z hz=>?_,fun hA m2=>(hn hA m2).symm,fun hD z hz=>?_,fun hD=>?_,fun hD z hz _=>?_,fun z hz _=>?_⟩
 ·have:=FL0 ho rfl hX x.n m
  simpa using this
 ·rcases List.mem_cons.1 hz with rfl | hz
  ·exact hl
  ·rw [List.mem_singleton.1 hz];exact hy
 ·rcases List.mem_cons.1 hz with rfl | hz
  ·exact hh hD
  ·rw [List.mem_singleton.1 hz];rfl
 ·subst hD
  exact ⟨fun _=>g1,fun _=>g2,trivial⟩
 ·have hb:Ds.isEmpty=false:=by cases Ds with | nil=>exact absurd rfl hD | cons _ _=>rfl
  rw [hb] at g1 g2
  rcases List.mem_cons.1 hz with rfl | hz
  ·exact g1
  ·rw [List.mem_singleton.1 hz];exact g2
 ·rcases List.mem_cons.1 hz with rfl | hz
  ·exact hf.GB1 _ _ _
  ·rw [List.mem_singleton.1 hz];exact hf.FZ1 _ _ _
theorem VE0 {G:Nat→Pg} {f root:Nat} {A B:List Nd} {l r:Nd} {Ds:List (List Nd)} (h:Dwn G f root (A++[l,r]++B) Ds) (f':Nat) {G':Nat→Pg} (g1:G' l.n=pgN Ds.isEmpty B ⟨l.n,l.lo,l.its++r.its⟩) (hf:TH0 Ds.isEmpty root ⟨l.n,l.lo,l.its++r.its⟩) :
 Seg G G' f f' root A [l,r] [⟨l.n,l.lo,l.its++r.its⟩] B Ds:=by
 refine ⟨by simp, ?_,fun z hz=>?_,fun _ m2=>rfl,fun hD z hz=>?_,fun hD=>?_,fun hD z hz _=>?_,fun z hz _=>?_⟩
 ·have:=GG0 (A:=A) (B:=B) (l:=l) (r:=r) (by have:=h.ord;simpa using this) l.n
  simpa using this
 ·rw [List.mem_singleton.1 hz];exact h.MU0 l (by simp)
 ·rw [List.mem_singleton.1 hz]
  have h1:=Jk h hD l (by simp)
  show (l.its++r.its).head?.map (·.k)=some l.lo
  cases hi:l.its with
  | nil=>rw [hi] at h1;simp at h1
  | cons i t=>rw [hi] at h1;exact h1
 ·subst hD
  exact ⟨fun _=>g1,trivial⟩
 ·have hb:Ds.isEmpty=false:=by cases Ds with | nil=>exact absurd rfl hD | cons _ _=>rfl
  rw [hb] at g1;rw [List.mem_singleton.1 hz];exact g1
 ·rw [List.mem_singleton.1 hz];exact hf
structure Pnd (G:Nat→Pg) (root:Nat) (Ds:List (List Nd)) (A:List Nd) (x:Nd) (B:List Nd) (ups:List UpR):Prop where
 dn:Dwn G x.n root (A++x :: B) Ds
 abv:Abv G x.n root A x B ups
 nd:(Eh (A++x :: B) Ds ups).Nodup
 le:Ai (body Ds.isEmpty x.its)≤1256
theorem Abv.root {G:Nat→Pg} {f root:Nat}:∀ {ups:List UpR} {A B:List Nd} {x:Nd},Abv G f root A x B ups→ups≠[]→root∈Xc ups
 | [],_,_,_,_,h=>absurd rfl h
 | [u],A,B,x,k,_=>by
   obtain ⟨h1,h2,h3,h4⟩:=k.2
   refine List.mem_append_left _ ?_
   rw [← h3];exact List.mem_map_of_mem (List.mem_append_right _ List.mem_cons_self)
 | u :: v :: r,A,B,x,k,_=>List.mem_append_right _ (Abv.root (ups:=v :: r) k.2 (by simp))
theorem UO0 {L L':List Nd} {Ds:List (List Nd)} {s t:List Nat} (h:(L'.map (·.n)++s).Perm (L.map (·.n)++t)):(Ei L' Ds++s).Perm (Ei L Ds++t):=by
 cases Ds with
 | nil=>exact h
 | cons D r =>
   show List.Perm ((L'.map (·.n)++Ei D r)++s) ((L.map (·.n)++Ei D r)++t)
   rw [List.append_assoc,List.append_assoc]
   refine (List.Perm.append_left _ List.perm_append_comm).trans ?_
   rw [← List.append_assoc]
   refine (List.Perm.append_right _ h).trans ?_
   rw [List.append_assoc];exact List.Perm.append_left _ List.perm_append_comm
theorem apart {A B M:List Nd} {Ds:List (List Nd)} {u:UpR} {r:List UpR} (nd:(Eh (A++M++B) Ds (u :: r)).Nodup):(∀ x∈A++B,∀ z∈M,x.n≠z.n)∧(∀ D t,Ds=D :: t→∀ p∈Ei D t,∀ z∈M,p≠z.n)∧(∀ p∈Xc (u :: r),∀ z∈M,p≠z.n)∧(∀ p∈u.A.map (·.n)++u.B.map (·.n)++Xc r,p≠u.y.n):=by
 obtain ⟨R,e1,e2⟩:=Jr (A++M++B) Ds;unfold Eh at nd;rw [e1] at nd
 have e3:Xc (u :: r)=u.A.map (·.n)++u.y.n :: u.B.map (·.n)++Xc r:=by
  show u.lv.map (·.n)++Xc r=_
  unfold UpR.lv;rw [List.map_append,List.map_cons]
 have n2:(Xc (u :: r)).Nodup:=(List.nodup_append.1 nd).2.1;rw [e3] at n2;obtain ⟨y1,y2,y3⟩:=Yd n2
 have key:∀ z∈M,∀ p,(p∈(A++B).map (·.n)∨p∈R∨p∈Xc (u :: r))→p≠z.n:=fun z hz p hp=>by
  obtain ⟨M1,M2,rfl⟩:=List.append_of_mem hz
  have nd2:(((A++M1).map (·.n))++z.n :: ((M2++B).map (·.n))++(R++Xc (u :: r))).Nodup:=by
   simpa [List.map_append,List.append_assoc] using nd
  obtain ⟨q1,q2,q3⟩:=Yd nd2;rintro rfl
  rcases hp with hp | hp | hp
  ·rw [List.map_append] at hp
   rcases List.mem_append.1 hp with hp | hp
   ·exact q1 (by rw [List.map_append];exact List.mem_append_left _ hp)
   ·exact q2 (by rw [List.map_append];exact List.mem_append_right _ hp)
  ·exact q3 (List.mem_append_left _ hp)
  ·exact q3 (List.mem_append_right _ hp)
 refine ⟨fun x hx z hz=>key z hz x.n (.inl (List.mem_map_of_mem hx)),fun D t hD p hp z hz=>key z hz p (.inr (.inl (by rw [e2 D t hD];exact hp))),fun p hp z hz=>key z hz p (.inr (.inr hp)),fun p hp e=>?_⟩
 subst e
 rcases List.mem_append.1 hp with hp | hp
 ·exact (List.mem_append.1 hp).elim y1 y2
 ·exact y3 hp
theorem IN0 {U V W W':List It} {d:Nat} (hW:Ai W'≤Ai W+d) (h0:U=[]→body false (W'++V)=body false W'++V∧body false (W++V)=body false W++V∧Ai (body false W')≤Ai (body false W)+d):Ai (body false (U++W'++V))≤Ai (body false (U++W++V))+d:=by
 cases U with
 | nil =>
   obtain ⟨a,b,c⟩:=h0 rfl;rw [List.nil_append,List.nil_append,a,b,Dw,Dw];omega
 | cons i U =>
   show Ai (U++W'++V)≤Ai (U++W++V)+d
   simp only [Dw];omega
theorem Pnd.up {G G':Nat→Pg} {f root d:Nat} {A M M' B:List Nd} {Ds:List (List Nd)} {u:UpR} {r:List UpR} (h:Dwn G f root (A++M++B) Ds) (hu:YG0 G f root A M B u) (k:Abv G f root u.A u.y u.B r)
 (s:Seg G G' f u.y.n root A M M' B Ds) (hne:M≠[]) (hlo:M'.head?.map (·.lo)=M.head?.map (·.lo)) (nd:(Eh (A++M++B) Ds (u :: r)).Nodup) (hf:∃ z∈M,z.n=f) (add del:List Nat)
 (hg:∀ p,p∉M.map (·.n)→p∉add→G' p=G p) (hadd:∀ p∈add,p∉Eh (A++M++B) Ds (u :: r)) (hp:(M'.map (·.n)++del).Perm (M.map (·.n)++add)) (hnd:add.Nodup)
 (hd:Ai (body false (u.U++M'.map Dl++u.V))≤Ai (body false u.y.its)+d) (hd2:d≤244) :
 Pnd G' root ((A++M'++B) :: Ds) u.A ⟨u.y.n,u.y.lo,u.U++M'.map Dl++u.V⟩ u.B r∧(Eh (u.A++(⟨u.y.n,u.y.lo,u.U++M'.map Dl++u.V⟩:Nd) :: u.B) ((A++M'++B) :: Ds) r++del).Perm (Eh (A++M++B) Ds (u :: r)++add):=by
 obtain ⟨z,hz,hzf⟩:=hf;obtain ⟨a1,a2,a3,a4⟩:=apart nd
 have hG:∀ p∈Eh (A++M++B) Ds (u :: r),(∀ z∈M,p≠z.n)→p≠f∧G' p=G p:=fun p hp hM=>⟨by rw [← hzf];exact hM z hz,hg p (fun hm=>by obtain ⟨y,hy,e⟩:=List.mem_map.1 hm;exact hM y hy e.symm) fun h=>hadd p h hp⟩
 have mem1:∀ x∈A++B,x.n∈Eh (A++M++B) Ds (u :: r):=fun x hx=>List.mem_append_left _ (Bg (by rcases List.mem_append.1 hx with hx | hx <;> simp [hx]) Ds)
 have mem2:∀ D t,Ds=D :: t→∀ p∈Ei D t,p∈Eh (A++M++B) Ds (u :: r):=fun D t hD p hp=>by subst hD;exact List.mem_append_left _ (List.mem_append_right _ hp)
 have mem3:∀ p∈Xc (u :: r),p∈Eh (A++M++B) Ds (u :: r):=fun p hp=>List.mem_append_right _ hp
 have e3:Xc (u :: r)=u.A.map (·.n)++u.y.n :: u.B.map (·.n)++Xc r:=by
  show u.lv.map (·.n)++Xc r=_
  unfold UpR.lv;rw [List.map_append,List.map_cons]
 have mem4:∀ p∈u.A.map (·.n)++u.B.map (·.n)++Xc r,p∈Xc (u :: r):=fun p hp=>by
  rw [e3];simp only [List.mem_append,List.mem_cons] at hp ⊢
  rcases hp with (hp | hp) | hp
  ·exact .inl (.inl hp)
  ·exact .inl (.inr (.inr hp))
  ·exact .inr hp
 obtain ⟨q1,q2⟩:=EO1 h hu k s hne hlo (fun x hx=>hG _ (mem1 x hx) (a1 x hx)) (fun D t hD p hp=>hG p (mem2 D t hD p hp) (a2 D t hD p hp)) (fun p hp=>hG p (mem3 p (mem4 p hp)) (a3 p (mem4 p hp)))
 have perm:(Eh (u.A++(⟨u.y.n,u.y.lo,u.U++M'.map Dl++u.V⟩:Nd) :: u.B) ((A++M'++B) :: Ds) r++del).Perm (Eh (A++M++B) Ds (u :: r)++add):=by
  unfold Eh
  have e4:Ei (u.A++(⟨u.y.n,u.y.lo,u.U++M'.map Dl++u.V⟩:Nd) :: u.B) ((A++M'++B) :: Ds)=u.lv.map (·.n)++Ei (A++M'++B) Ds:=by
   show (u.A++_ :: u.B).map (·.n)++_=_
   unfold UpR.lv;rw [List.map_append,List.map_cons,List.map_append,List.map_cons]
  rw [e4]
  show List.Perm (u.lv.map (·.n)++Ei (A++M'++B) Ds++Xc r++del) (Ei (A++M++B) Ds++(u.lv.map (·.n)++Xc r)++add)
  have p1:(Ei (A++M'++B) Ds++del).Perm (Ei (A++M++B) Ds++add):=by
   refine UO0 ?_
   refine List.perm_iff_count.2 fun a=>?_
   have c1:=hp.count_eq a;simp only [List.map_append,List.count_append] at c1 ⊢;omega
  refine List.perm_iff_count.2 fun a=>?_
  have c1:=p1.count_eq a;simp only [List.count_append] at c1 ⊢;omega
 refine ⟨⟨q1,q2, ?_, ?_⟩,perm⟩
 ·have n1:(Eh (A++M++B) Ds (u :: r)++add).Nodup:=List.nodup_append.2 ⟨nd,hnd,fun a ha b hb e=>hadd b hb (e ▸ ha)⟩
  exact (List.nodup_append.1 ((perm.nodup_iff).2 n1)).1
 ·show Ai (body false (u.U++M'.map Dl++u.V))≤1256
  have h1:=(hu.fit u.y (List.mem_append_right _ List.mem_cons_self) (fun e=>a3 u.y.n (by rw [e3];simp) z hz (e.trans hzf.symm))).le
  omega
theorem Xk (x:Nd):szI (Dl x)=9+x.lo.length:=by unfold szI Dl;simp only [fourL_len];omega
section
variable {G G':Nat→Pg} {root:Nat} {A B:List Nd} {x:Nd} {Ds:List (List Nd)} {u:UpR} {r:List UpR}
theorem CL0 {k:Nat} (hk:0<k) {l:List It}:(l.take k).head? = l.head? := by
 cases l with
 | nil=>simp
 | cons a l=>cases k with
   | zero=>omega
   | succ k=>rfl
theorem Pnd.split (h:Pnd G root Ds A x B (u :: r)) (hu:1012<Ai (body Ds.isEmpty x.its)) {m:Nat} (hm:m∉Eh (A++x :: B) Ds (u :: r)) {X Y:List It} {y:It} (eX:x.its.take (spl Ds.isEmpty x.its)=X) (eY:x.its.drop (spl Ds.isEmpty x.its)=y :: Y)
 (hG:G'=Hm (Hm G x.n (pgN Ds.isEmpty (⟨m,y.k,y :: Y⟩ :: B) ⟨x.n,x.lo,X⟩)) m (pgN Ds.isEmpty B ⟨m,y.k,y :: Y⟩)) :
 Pnd G' root ((A++[⟨x.n,x.lo,X⟩,⟨m,y.k,y :: Y⟩]++B) :: Ds) u.A ⟨u.y.n,u.y.lo,u.U++[⟨x.lo,Ak x.n⟩,⟨y.k,Ak m⟩]++u.V⟩ u.B r ∧
 (Eh (u.A++(⟨u.y.n,u.y.lo,u.U++[⟨x.lo,Ak x.n⟩,⟨y.k,Ak m⟩]++u.V⟩:Nd) :: u.B) ((A++[⟨x.n,x.lo,X⟩,⟨m,y.k,y :: Y⟩]++B) :: Ds) r).Perm (Eh (A++x :: B) Ds (u :: r)++[m]):=by
 have hdn:Dwn G x.n root (A++[x]++B) Ds:=by have:=h.dn;simpa using this
 have hsz:∀ i∈x.its,szI i≤244∧i.k.length≤200:=fun i hi=>by obtain ⟨a,b,_⟩:=hdn.sz (x:=x) (by simp) hi;exact ⟨a,b⟩
 obtain ⟨hh,hk,hk2⟩:=Uo hu (by have:=h.le;omega) (fun i hi=>(hsz i (II0 hi)).1)
 rw [eX,eY] at hh
 have hits:x.its=X++y :: Y:=by rw [← eX,← eY,List.take_append_drop]
 have hxm:x.n≠m:=fun e=>hm (by rw [← e];exact List.mem_append_left _ (Bg (by simp) Ds))
 have g1:G' x.n=pgN Ds.isEmpty (⟨m,y.k,y :: Y⟩ :: B) ⟨x.n,x.lo,X⟩:=by rw [hG,Aq hxm,Dj]
 have g2:G' m=pgN Ds.isEmpty B ⟨m,y.k,y :: Y⟩:=by rw [hG,Dj]
 have hyk:=(hsz y (by rw [hits];simp)).2
 have seg:=KL0 (G:=G) (f:=x.n) (A:=A) (B:=B) (M:=[x]) hdn (by simpa using hits) hh.ne.1 rfl (fun _ _=>rfl) (by have:=hdn.ord;rw [← hits];simpa using this) hh u.y.n g1 g2 hyk (h.dn.MU0 x (by simp)) (fun hD=>by
  rw [← eX,CL0 hk];exact Jk hdn hD x List.mem_cons_self)
 have hup:=Pnd.up (add:=[m]) (del:=[]) (d:=244) hdn h.abv.1 h.abv.2 seg (by simp) rfl (by have:=h.nd;simpa using this) ⟨x,List.mem_cons_self,rfl⟩
  (fun p hp1 hp2=>by
    have h1:p≠x.n:=fun e=>hp1 (by rw [e];simp)
    have h2:p≠m:=fun e=>hp2 (by rw [e];simp)
    rw [hG,Aq h2,Aq h1]) (fun p hp=>by rw [List.mem_singleton.1 hp];simpa using hm) (by simp) (by simp) (by
    rw [h.abv.1.its]
    refine IN0 ?_ (fun hU=>⟨rfl,rfl, ?_⟩)
    ·simp only [List.map_cons,List.map_nil,Df,Gi,Xk];omega
    ·show Ai [Dl _]≤Ai ([]:List It)+244
     simp only [Df,Gi,Xk];omega) (Nat.le_refl _)
 obtain ⟨q1,q2⟩:=hup
 refine ⟨q1, ?_⟩
 have e:A++x :: B=A++[x]++B:=by simp
 rw [e]
 simpa [Dl] using q2
theorem Pnd.left (h:Pnd G root Ds A x B (u :: r)) {U':List It} {it:It} (e:u.U=U'++[it]):∃ A' l,A=A'++[l]∧it=Dl l∧YG0 G x.n root A' [l,x] B { u with U:=U' }:=by
 have hl:=h.abv.1.left;rw [e,← List.append_assoc] at hl
 obtain ⟨A',l,rfl⟩:∃ A' l,A=A'++[l]:=by
  rcases List.eq_nil_or_concat A with rfl | ⟨A',l,rfl⟩
  ·simp at hl
  ·exact ⟨A',l,by simp⟩
 rw [List.map_append,List.map_singleton] at hl;obtain ⟨h1,h2⟩:=List.append_inj' hl rfl
 have h3:it=Dl l:=by simpa using h2
 refine ⟨A',l,rfl,h3,⟨?_,h1,h.abv.1.right,h.abv.1.head,h.abv.1.pages,h.abv.1.fit⟩⟩
 rw [h.abv.1.its,e,h3];simp
theorem Pnd.right (h:Pnd G root Ds A x B (u :: r)) {V':List It} {it:It} (e:u.V=it :: V'):∃ B' l,B=l :: B'∧it=Dl l∧YG0 G x.n root A [x,l] B' { u with V:=V' }:=by
 have hl:=h.abv.1.right;rw [e] at hl
 cases B with
 | nil=>simp at hl
 | cons l B' =>
   rw [List.map_cons,List.cons_append] at hl
   injection hl with h2 h1
   refine ⟨B',l,rfl,h2,⟨?_,h.abv.1.left,h1,h.abv.1.head,h.abv.1.pages,h.abv.1.fit⟩⟩
   rw [h.abv.1.its,e,h2];simp
end
structure Pair (G:Nat→Pg) (f root:Nat) (Ds:List (List Nd)) (A:List Nd) (l r:Nd) (B:List Nd) (u:UpR) (ups:List UpR):Prop where
 dn:Dwn G f root (A++[l,r]++B) Ds
 up:YG0 G f root A [l,r] B u
 abv:Abv G f root u.A u.y u.B ups
 nd:(Eh (A++[l,r]++B) Ds (u :: ups)).Nodup
 one:f=l.n∨f=r.n
section
variable {G G':Nat→Pg} {f root:Nat} {A B:List Nd} {l r:Nd} {Ds:List (List Nd)} {u:UpR} {ups:List UpR}
theorem Pair.lr (h:Pair G f root Ds A l r B u ups):l.n≠r.n∧l.n≠root∧r.n≠root:=by
 obtain ⟨R,e1,e2⟩:=Jr (A++[l,r]++B) Ds;have nd:=h.nd;unfold Eh at nd;rw [e1] at nd
 have nd2:((A.map (·.n))++l.n :: r.n :: (B.map (·.n))++(R++Xc (u :: ups))).Nodup:=by
  simpa [List.map_append,List.append_assoc] using nd
 obtain ⟨q1,q2⟩:=UM0 nd2
 have hr:root∈Xc (u :: ups):=by
  cases ups with
  | nil =>
    obtain ⟨h1,h2,h3,h4⟩:=h.abv
    refine List.mem_append_left _ ?_
    rw [← h3];exact List.mem_map_of_mem (List.mem_append_right _ List.mem_cons_self)
  | cons v t=>exact List.mem_append_right _ (Abv.root h.abv (by simp))
 have:=q2 root (.inr (.inr (List.mem_append_right _ hr)))
 exact ⟨q1,fun e=>this.1 e.symm,fun e=>this.2 e.symm⟩
theorem Dwn.fits:∀ {Ds:List (List Nd)} {L:List Nd},Dwn G f root L Ds→∀ x∈L,x.n≠f→TH0 Ds.isEmpty root x
 | [],_,h,x,hx,hn=>Hy.fit h x hx hn
 | _ :: _,_,h,x,hx,hn=>h.1.fit x hx hn
theorem Pair.merge (h:Pair G f root Ds A l r B u ups) (hle:Ai (body Ds.isEmpty (l.its++r.its))≤1012) (hG:G'=Hm G l.n (pgN Ds.isEmpty B ⟨l.n,l.lo,l.its++r.its⟩)) :
 Pnd G' root ((A++[⟨l.n,l.lo,l.its++r.its⟩]++B) :: Ds) u.A ⟨u.y.n,u.y.lo,u.U++[⟨l.lo,Ak l.n⟩]++u.V⟩ u.B ups ∧
 (Eh (u.A++(⟨u.y.n,u.y.lo,u.U++[⟨l.lo,Ak l.n⟩]++u.V⟩:Nd) :: u.B) ((A++[⟨l.n,l.lo,l.its++r.its⟩]++B) :: Ds) ups++[r.n]).Perm (Eh (A++[l,r]++B) Ds (u :: ups)):=by
 obtain ⟨n1,n2,n3⟩:=h.lr
 have hne:Ds.isEmpty=false→l.its≠[]:=fun hD e=>by
  have:=Jk h.dn (by rintro rfl;cases hD) l (by simp)
  rw [e] at this;simp at this
 have hfit:TH0 Ds.isEmpty root ⟨l.n,l.lo,l.its++r.its⟩:=by
  refine ⟨hle,fun _=>?_,fun hb=>?_⟩
  ·show 180≤Ai (body Ds.isEmpty (l.its++r.its))
   rw [HE0 hne,Dw]
   rcases h.one with e | e
   ·have:=(h.dn.fits r (by simp) (fun e2=>n1 (by rw [← e,e2]))).ge n3
    have h2:=ZX0 Ds.isEmpty r.its;omega
   ·have:=(h.dn.fits l (by simp) (fun e2=>n1 (by rw [e2,e]))).ge n2
    omega
  ·have h1:l.its≠[]:=hne hb
   have h2:r.its≠[]:=fun e=>by
    have:=Jk h.dn (by rintro rfl;cases hb) r (by simp)
    rw [e] at this;simp at this
   have:=List.length_pos_iff.2 h1;have:=List.length_pos_iff.2 h2
   show 2≤(l.its++r.its).length
   rw [List.length_append];omega
 have seg:=VE0 (G':=G') h.dn u.y.n (by rw [hG,Dj]) hfit
 have hup:=Pnd.up (add:=[]) (del:=[r.n]) (d:=0) h.dn h.up h.abv seg (by simp) rfl h.nd (h.one.elim (fun e=>⟨l,by simp,e.symm⟩) (fun e=>⟨r,by simp,e.symm⟩))
  (fun p hp1 _=>by
    rw [hG,Aq (fun e=>hp1 (by rw [e];simp))]) (by simp) (by simp) (by simp) (by
    rw [h.up.its]
    refine IN0 ?_ (fun hU=>⟨rfl,rfl, ?_⟩)
    ·simp only [List.map_cons,List.map_nil,Df,Gi,Xk];omega
    ·show Ai ([]:List It)≤Ai [Dl _]+0
     rw [Gi];exact Nat.zero_le _) (by omega)
 obtain ⟨q1,q2⟩:=hup
 exact ⟨q1,by simpa [Dl] using q2⟩
theorem Pair.share (h:Pair G f root Ds A l r B u ups) (hgt:1012<Ai (body Ds.isEmpty (l.its++r.its))) (hle:Ai (body Ds.isEmpty (l.its++r.its))≤1404) {X Y:List It} {y:It} (eX:(l.its++r.its).take (spl Ds.isEmpty (l.its++r.its))=X) (eY:(l.its++r.its).drop (spl Ds.isEmpty (l.its++r.its))=y :: Y)
 (hG:G'=Hm (Hm G l.n (pgN Ds.isEmpty (⟨r.n,y.k,y :: Y⟩ :: B) ⟨l.n,l.lo,X⟩)) r.n (pgN Ds.isEmpty B ⟨r.n,y.k,y :: Y⟩)) :
 Pnd G' root ((A++[⟨l.n,l.lo,X⟩,⟨r.n,y.k,y :: Y⟩]++B) :: Ds) u.A ⟨u.y.n,u.y.lo,u.U++[⟨l.lo,Ak l.n⟩,⟨y.k,Ak r.n⟩]++u.V⟩ u.B ups ∧
 (Eh (u.A++(⟨u.y.n,u.y.lo,u.U++[⟨l.lo,Ak l.n⟩,⟨y.k,Ak r.n⟩]++u.V⟩:Nd) :: u.B) ((A++[⟨l.n,l.lo,X⟩,⟨r.n,y.k,y :: Y⟩]++B) :: Ds) ups).Perm (Eh (A++[l,r]++B) Ds (u :: ups)):=by
 obtain ⟨n1,n2,n3⟩:=h.lr
 have hsz:∀ i∈l.its++r.its,szI i≤244∧i.k.length≤200:=fun i hi=>by
  rcases List.mem_append.1 hi with hi | hi
  ·obtain ⟨a,b,_⟩:=h.dn.sz (x:=l) (by simp) hi;exact ⟨a,b⟩
  ·obtain ⟨a,b,_⟩:=h.dn.sz (x:=r) (by simp) hi;exact ⟨a,b⟩
 obtain ⟨hh,hk,hk2⟩:=Uo hgt hle (fun i hi=>(hsz i (II0 hi)).1)
 rw [eX,eY] at hh
 have hits:l.its++r.its=X++y :: Y:=by rw [← eX,← eY,List.take_append_drop]
 have g1:G' l.n=pgN Ds.isEmpty (⟨r.n,y.k,y :: Y⟩ :: B) ⟨l.n,l.lo,X⟩:=by rw [hG,Aq n1,Dj]
 have g2:G' r.n=pgN Ds.isEmpty B ⟨r.n,y.k,y :: Y⟩:=by rw [hG,Dj]
 have hyk:=(hsz y (by rw [hits];simp)).2
 have seg:=KL0 (x:=l) h.dn (by simpa using hits) hh.ne.1 rfl (fun _ _=>rfl) (by
  have:=GG0 (A:=A) (B:=B) (l:=l) (r:=r) (by have:=h.dn.ord;simpa using this) l.n
  rw [hits] at this;exact this) hh u.y.n g1 g2 hyk (h.dn.MU0 l (by simp)) (fun hD=>by
  have h1:=Jk h.dn hD l (by simp)
  rw [← eX,CL0 hk]
  cases hi:l.its with
  | nil=>rw [hi] at h1;simp at h1
  | cons i t=>rw [hi] at h1;exact h1)
 have hup:=Pnd.up (add:=[]) (del:=[]) (d:=244) h.dn h.up h.abv seg (by simp) rfl h.nd (h.one.elim (fun e=>⟨l,by simp,e.symm⟩) (fun e=>⟨r,by simp,e.symm⟩))
  (fun p hp1 _=>by
    have h1:p≠l.n:=fun e=>hp1 (by rw [e];simp)
    have h2:p≠r.n:=fun e=>hp1 (by rw [e];simp)
    rw [hG,Aq h2,Aq h1]) (by simp) (by simp) (by simp) (by
    rw [h.up.its]
    refine IN0 ?_ (fun hU=>⟨rfl,rfl, ?_⟩)
    ·simp only [List.map_cons,List.map_nil,Df,Gi,Xk];omega
    ·show Ai [Dl _]≤Ai [Dl _]+244
     simp only [Df,Gi,Xk];omega) (Nat.le_refl _)
 obtain ⟨q1,q2⟩:=hup
 exact ⟨q1,by simpa [Dl] using q2⟩
end
section
variable {G G':Nat→Pg} {root:Nat} {A B:List Nd} {x:Nd} {Ds:List (List Nd)}
theorem Pnd.top (h:Pnd G root Ds A x B []):A=[]∧B=[]∧x.n=root∧x.lo=[]:=h.abv
theorem Pnd.QS0 (h:Pnd G root Ds A x B []) (hle:Ai (body Ds.isEmpty x.its)≤1012) (h2:Ds≠[]→2≤x.its.length) (hG:G'=Hm G root (pgN Ds.isEmpty [] x)):Tre G' root x Ds∧Ei [x] Ds=Eh (A++x :: B) Ds []:=by
 obtain ⟨hA,hB,hn,hl⟩:=h.top;subst hA hB
 have:=QW0 h.dn h.abv h.nd ⟨hle,fun e=>absurd hn e,fun hb=>h2 (by rintro rfl;cases hb)⟩
 rw [hn] at this;subst hG
 exact ⟨⟨this.1,hn,hl⟩,by unfold Eh;show _=Ei [x] Ds++[];rw [List.append_nil]⟩
theorem Pnd.KI0 (h:Pnd G root Ds A x B []) (hu:1012<Ai (body Ds.isEmpty x.its)) {m1 m2:Nat} (hm1:m1∉Eh (A++x :: B) Ds []) (hm2:m2∉Eh (A++x :: B) Ds []) (h12:m1≠m2) {X Y:List It} {y:It} (eX:x.its.take (spl Ds.isEmpty x.its)=X) (eY:x.its.drop (spl Ds.isEmpty x.its)=y :: Y)
 (hG:G'=Hm (Hm (Hm G m1 (pgN Ds.isEmpty [⟨m2,y.k,y :: Y⟩] ⟨m1,[],X⟩)) m2 (pgN Ds.isEmpty [] ⟨m2,y.k,y :: Y⟩)) root (Yr ⟨root,[],[⟨[],Ak m1⟩,⟨y.k,Ak m2⟩]⟩)) :
 Tre G' root ⟨root,[],[⟨[],Ak m1⟩,⟨y.k,Ak m2⟩]⟩ ([⟨m1,[],X⟩,⟨m2,y.k,y :: Y⟩] :: Ds) ∧
 (Ei [⟨root,[],[⟨[],Ak m1⟩,⟨y.k,Ak m2⟩]⟩] ([⟨m1,[],X⟩,⟨m2,y.k,y :: Y⟩] :: Ds)).Perm (Eh (A++x :: B) Ds []++[m1,m2]):=by
 obtain ⟨hA,hB,hn,hl⟩:=h.top;subst hA hB;obtain ⟨R,e1,e2⟩:=Jr [x] Ds
 have eo:Eh ([]++x :: []) Ds []=root :: R:=by
  unfold Eh
  show Ei [x] Ds++[]=_
  rw [List.append_nil,e1,← hn];rfl
 have nd:=h.nd;rw [eo] at hm1 hm2 nd;simp only [List.mem_cons,not_or] at hm1 hm2;obtain ⟨nR,_⟩:=List.nodup_cons.1 nd;have hdn:Dwn G x.n root ([]++[x]++[]) Ds:=h.dn
 have hsz:∀ i∈x.its,szI i≤244∧i.k.length≤200:=fun i hi=>by obtain ⟨a,b,_⟩:=hdn.sz (x:=x) (by simp) hi;exact ⟨a,b⟩
 obtain ⟨hh,hk,hk2⟩:=Uo hu (by have:=h.le;omega) (fun i hi=>(hsz i (II0 hi)).1)
 rw [eX,eY] at hh
 have hits:x.its=X++y :: Y:=by rw [← eX,← eY,List.take_append_drop]
 have g1:G' m1=pgN Ds.isEmpty [⟨m2,y.k,y :: Y⟩] ⟨m1,[],X⟩:=by rw [hG,Aq hm1.1,Aq h12,Dj]
 have g2:G' m2=pgN Ds.isEmpty [] ⟨m2,y.k,y :: Y⟩:=by rw [hG,Aq hm2.1,Dj]
 have g3:G' root=Yr ⟨root,[],[⟨[],Ak m1⟩,⟨y.k,Ak m2⟩]⟩:=by rw [hG,Dj]
 have hyk:=(hsz y (by rw [hits];simp)).2
 have hord:Wu ([]++(⟨m1,[],X++y :: Y⟩:Nd) :: []):=by
  have h1:=hdn.ord;obtain ⟨h2,_⟩:=Ey.1 h1
  refine Ey.2 ⟨⟨by rw [← hits];exact h2.1,fun e he=>NJ0 _⟩,⟨List.Pairwise.nil,fun _ h=>by cases h⟩,fun _ h=>by cases h⟩
 have hmin:Dwn G' 0 root ([]++[(⟨m1,[],X⟩:Nd),⟨m2,y.k,y :: Y⟩]++[]) Ds:=by
  refine hdn.seg (M:=[x]) (B:=[]) ⟨by simp [hits], ?_,fun z hz=>?_,fun hA=>absurd rfl hA,fun hD z hz=>?_,fun hD=>?_,fun hD z hz _=>?_,fun z hz _=>?_⟩ (fun z hz=>by simp at hz) (fun D t hD p hp _=>?_)
  ·have:=FL0 hord rfl hh.ne.1 m1 m2
   simpa using this
  ·rcases List.mem_cons.1 hz with rfl | hz
   ·exact Nat.zero_le _
   ·rw [List.mem_singleton.1 hz];exact hyk
  ·rcases List.mem_cons.1 hz with rfl | hz
   ·show X.head?.map (·.k)=some []
    rw [← eX,CL0 hk,Jk hdn hD x List.mem_cons_self,hl]
   ·rw [List.mem_singleton.1 hz];rfl
  ·subst hD
   exact ⟨fun _=>g1,fun _=>g2,trivial⟩
  ·have hb:Ds.isEmpty=false:=by cases Ds with | nil=>exact absurd rfl hD | cons _ _=>rfl
   rw [hb] at g1 g2
   rcases List.mem_cons.1 hz with rfl | hz
   ·exact g1
   ·rw [List.mem_singleton.1 hz];exact g2
  ·rcases List.mem_cons.1 hz with rfl | hz
   ·exact hh.GB1 _ _ _
   ·rw [List.mem_singleton.1 hz];exact hh.FZ1 _ _ _
  ·have hR:p∈R:=by rw [e2 D t hD];exact hp
   have a1:p≠root:=fun e=>nR (by rw [← e];exact hR)
   have a2:p≠m1:=fun e=>hm1.2 (by rw [← e];exact hR)
   have a3:p≠m2:=fun e=>hm2.2 (by rw [← e];exact hR)
   exact ⟨by rw [hn];exact a1,by rw [hG,Aq a1,Aq a3,Aq a2]⟩
 refine ⟨⟨⟨⟨rfl,fun z hz=>?_,fun z hz _=>?_,fun z hz _=>?_⟩,hmin⟩,rfl,rfl⟩, ?_⟩
 ·rw [List.mem_singleton.1 hz];rfl
 ·rw [List.mem_singleton.1 hz];exact g3
 ·rw [List.mem_singleton.1 hz]
  refine ⟨?_,fun e=>absurd rfl e,fun _=>Nat.le_refl _⟩
  show Ai [⟨y.k,Ak m2⟩]≤1012
  simp only [Df,Gi,szI,fourL_len];omega
 ·rw [eo]
  show List.Perm ([root]++Ei [(⟨m1,[],X⟩:Nd),⟨m2,y.k,y :: Y⟩] Ds) _
  obtain ⟨R',e1',e2'⟩:=Jr [(⟨m1,[],X⟩:Nd),⟨m2,y.k,y :: Y⟩] Ds
  have:R'=R:=by
   cases Ds with
   | nil =>
     have a1:R=[]:=by have:[x.n]=[x.n]++R:=e1;simpa using this
     have a2:R'=[]:=by have:[m1,m2]=[m1,m2]++R':=e1';simpa using this
     rw [a1,a2]
   | cons D t=>rw [e2 D t rfl,e2' D t rfl]
  rw [e1',this]
  refine List.perm_iff_count.2 fun a=>?_
  simp only [List.map_cons,List.map_nil,List.count_append,List.count_cons,List.count_nil];omega
theorem Pnd.AE1 {D:List Nd} (h:Pnd G root (D :: Ds) A x B []) (h1:x.its.length≤1) (h0:root≠0):∃ c,D=[c]∧x.its=[Dl c]∧c.n≠root∧G c.n=pgN Ds.isEmpty [] c∧Tre (Hm G root (pgN Ds.isEmpty [] c)) root ⟨root,[],c.its⟩ Ds∧(Ei [⟨root,[],c.its⟩] Ds++[c.n]).Perm (Eh (A++x :: B) (D :: Ds) []):=by
 obtain ⟨hA,hB,hn,hl⟩:=h.top;subst hA hB;have hd:=h.dn
 have h2:x.its.head?.map (·.k)=some x.lo:=hd.1.head x (by simp)
 have h3:[x].flatMap (·.its)=D.map Dl:=hd.1.its
 have h4:D.map Dl=x.its:=by rw [← h3];simp
 obtain ⟨c,hc⟩:∃ c,D=[c]:=by
  have hlen:D.length=x.its.length:=by rw [← h4,List.length_map]
  match D,hlen with
  | [],hlen =>
    have:x.its=[]:=List.length_eq_zero_iff.1 (by simpa using hlen.symm)
    rw [this] at h2;simp at h2
  | [c],_=>exact ⟨c,rfl⟩
  | _ :: _ :: _,hlen=>simp only [List.length_cons] at hlen;omega
 subst hc;have hic:x.its=[Dl c]:=h4.symm
 have hlo:c.lo=[]:=by
  rw [hic] at h2
  have:c.lo=x.lo:=by simpa [Dl] using h2
  rw [this,hl]
 obtain ⟨R,e1,e2⟩:=Jr [c] Ds
 have eo:Eh ([]++x :: []) ([c] :: Ds) []=root :: c.n :: R:=by
  unfold Eh
  show ([x].map (·.n)++Ei [c] Ds)++[]=_
  rw [List.append_nil,e1,← hn];rfl
 have nd:=h.nd;rw [eo] at nd;obtain ⟨n1,n2⟩:=List.nodup_cons.1 nd;obtain ⟨n3,_⟩:=List.nodup_cons.1 n2
 have hcr:c.n≠root:=fun e=>n1 (by rw [← e];exact List.mem_cons_self)
 have hcx:c.n≠x.n:=by rw [hn];exact hcr
 have hdc:Dwn G x.n root [c] Ds:=hd.2
 have hpg:G c.n=pgN Ds.isEmpty [] c:=by
  cases Ds with
  | nil=>exact hdc.pages.1 hcx
  | cons D' t=>exact hdc.1.pages c List.mem_cons_self hcx
 have hfit:TH0 Ds.isEmpty root c:=hdc.fits c List.mem_cons_self hcx
 have hfit2:TH0 Ds.isEmpty root ⟨root,[],c.its⟩:=⟨hfit.le,fun e=>absurd rfl e,hfit.two⟩
 refine ⟨c,rfl,hic,hcr,hpg,⟨?_,rfl,rfl⟩, ?_⟩
 ·have hord:Wu [(⟨root,[],c.its⟩:Nd)]:=by
   obtain ⟨h5,_⟩:=Ey.1 hdc.ord
   exact Ey.2 ⟨⟨h5.1,fun e he=>NJ0 _⟩,⟨List.Pairwise.nil,fun _ h=>by cases h⟩,fun _ h=>by cases h⟩
  have:=Dwn.seg (G':=Hm G root (pgN Ds.isEmpty [] c)) (f':=0) (A:=[]) (M:=[c]) (M':=[⟨root,[],c.its⟩]) (B:=[]) hdc ⟨by simp,hord,fun z hz=>?_,fun hA=>absurd rfl hA,fun hD z hz=>?_,fun hD=>?_,fun hD z hz _=>?_,fun z hz _=>?_⟩ (fun z hz=>by simp at hz) (fun D' t hD p hp _=>?_)
  ·exact this
  ·rw [List.mem_singleton.1 hz];exact Nat.zero_le _
  ·rw [List.mem_singleton.1 hz]
   show c.its.head?.map (·.k)=some []
   rw [Jk (A:=[]) (B:=[]) (M:=[c]) (by simpa using hdc) hD c List.mem_cons_self,hlo]
  ·subst hD
   exact ⟨fun _=>Dj,trivial⟩
  ·rw [List.mem_singleton.1 hz]
   have hb:Ds.isEmpty=false:=by cases Ds with | nil=>exact absurd rfl hD | cons _ _=>rfl
   rw [hb];exact Dj
  ·rw [List.mem_singleton.1 hz];exact hfit2
  ·have hR:p∈R:=by rw [e2 D' t hD];exact hp
   have a1:p≠root:=fun e=>n1 (by rw [← e];exact List.mem_cons_of_mem _ hR)
   exact ⟨by rw [hn];exact a1,Aq a1⟩
 ·rw [eo]
  obtain ⟨R',e1',e2'⟩:=Jr [(⟨root,[],c.its⟩:Nd)] Ds
  have:R'=R:=by
   cases Ds with
   | nil =>
     have a1:R=[]:=by have:[c.n]=[c.n]++R:=e1;simpa using this
     have a2:R'=[]:=by have:[root]=[root]++R':=e1';simpa using this
     rw [a1,a2]
   | cons D t=>rw [e2 D t rfl,e2' D t rfl]
  rw [e1',this]
  refine List.perm_iff_count.2 fun a=>?_
  simp only [List.map_cons,List.map_nil,List.count_append,List.count_cons,List.count_nil];omega
end
def ahead (key:Ky) (past:Bool) (i:It):Bool:=Op.bytesLess i.k key || (past && i.k == key)
theorem Ux {key:Ky} {i:It}:ahead key true i=true↔leK i.k key:=by
 unfold ahead;simp only [Bool.true_and,Bool.or_eq_true,beq_iff_eq]
 constructor
 ·rintro (h | h)
  ·exact He h
  ·rw [h];exact Qs _
 ·intro h
  rcases Xx h with h | h
  ·exact .inl h
  ·exact .inr h
theorem BJ0 {key:Ky} {i:It}:ahead key false i=true↔ltK i.k key:=by
 unfold ahead ltK;simp
def cnt (key:Ky) (past:Bool) (l:List It):Nat:=(l.takeWhile (ahead key past)).length
abbrev Srt (l:List It):Prop:=l.Pairwise (fun a b=>ltK a.k b.k)
theorem TD0 {key:Ky} {past:Bool} {a b:It} (h:ltK a.k b.k) (hb:ahead key past b=true):ahead key past a=true:=by
 cases past with
 | true=>exact Ux.2 (He (Jw h (Ux.1 hb)))
 | false=>exact BJ0.2 (Jo h (BJ0.1 hb))
theorem cnt_le (key:Ky) (past:Bool) (l:List It):cnt key past l≤l.length:=by
 unfold cnt;exact (List.takeWhile_sublist _).length_le
theorem Ym {key:Ky} {past:Bool}:∀ {l:List It},Srt l→(∀ i∈l.take (cnt key past l),ahead key past i=true)∧∀ i∈l.drop (cnt key past l),ahead key past i=false
 | [],_=>⟨fun i h=>by simp [cnt] at h,fun i h=>by simp at h⟩
 | a :: l,hs=>by
   obtain ⟨h1,h2⟩:=List.pairwise_cons.1 hs
   by_cases ha:ahead key past a=true
   ·have e:cnt key past (a :: l)=cnt key past l+1:=by unfold cnt;rw [List.takeWhile_cons,if_pos ha];rfl
    rw [e,List.take_succ_cons,List.drop_succ_cons];obtain ⟨p,q⟩:=Ym (key:=key) (past:=past) h2
    exact ⟨fun i hi=>(List.mem_cons.1 hi).elim (fun e=>e ▸ ha) (p i),q⟩
   ·have e:cnt key past (a :: l)=0:=by unfold cnt;rw [List.takeWhile_cons,if_neg ha];rfl
    rw [e]
    refine ⟨fun i hi=>by simp at hi,fun i hi=>?_⟩
    rcases List.mem_cons.1 hi with rfl | hi
    ·simpa using ha
    ·cases hb:ahead key past i with
     | false=>rfl
     | true=>exact absurd (TD0 (h1 i hi) hb) ha
theorem cnt_lt {key:Ky} {past:Bool} {l:List It} (hs:Srt l) {m:Nat} (hm:m<l.length):(ahead key past l[m]=true→m<cnt key past l)∧(ahead key past l[m]=false→cnt key past l≤m):=by
 obtain ⟨h1,h2⟩:=Ym (key:=key) (past:=past) hs
 constructor
 ·intro h
  refine Classical.byContradiction fun hn=>?_
  have:l[m]∈l.drop (cnt key past l):=by
   rw [List.mem_drop_iff_getElem]
   exact ⟨m-cnt key past l,by omega,by congr 1;omega⟩
  rw [h2 _ this] at h;cases h
 ·intro h
  refine Classical.byContradiction fun hn=>?_
  have:l[m]∈l.take (cnt key past l):=by
   rw [List.mem_take_iff_getElem]
   exact ⟨m,by omega,rfl⟩
  rw [h1 _ this] at h;cases h
structure At (key:Ky) (A:List Nd) (x:Nd) (B:List Nd):Prop where
 lo:leK x.lo key
 hi:∀ b∈B,ltK key b.lo
theorem At.left {key:Ky} {A B:List Nd} {x:Nd} (h:At key A x B) (ho:Wu (A++x :: B)):∀ a∈A,∀ i∈a.its,ltK i.k key:=fun a ha i hi =>
 Jw (((Nh.1 ho).2.2 a ha x List.mem_cons_self).2 i hi) h.lo
theorem At.right {key:Ky} {A B:List Nd} {x:Nd} (h:At key A x B) (ho:Wu (A++x :: B)):∀ b∈B,∀ i∈b.its,ltK key i.k:=fun b hb i hi =>
 Jw (h.hi b hb) ((ho.2 b (List.mem_append_right _ (List.mem_cons_of_mem _ hb))).2 i hi)
section
variable {G:Nat→Pg} {f root:Nat} {A B D:List Nd} {x:Nd} {Ds:List (List Nd)} {ups:List UpR}
theorem XT0 (h:Dwn G f root (A++x :: B) (D :: Ds)) (k:Abv G f root A x B ups) {U V:List It} {it:It} (e:x.its=U++it :: V) :
 ∃ A' y B',D=A'++y :: B'∧it=Dl y∧Dwn G f root (A'++y :: B') Ds∧Abv G f root A' y B' (⟨A,x,U,V,B⟩ :: ups)∧A'.map Dl=A.flatMap (·.its)++U∧B'.map Dl=V++B.flatMap (·.its):=by
 have hi:=h.1.its;rw [List.flatMap_append,List.flatMap_cons,e] at hi
 have hi2:D.map Dl=(A.flatMap (·.its)++U)++it :: (V++B.flatMap (·.its)):=by rw [← hi];simp
 obtain ⟨A',D2,rfl,h1,h2⟩:=List.map_eq_append_iff.1 hi2;obtain ⟨y,B',rfl,h3,h4⟩:=List.map_eq_cons_iff.1 h2
 refine ⟨A',y,B',rfl,h3.symm,h.2,⟨⟨?_,h1.symm,h4.symm,h.1.head,h.1.pages,h.1.fit⟩,k⟩,h1,h4⟩
 rw [e,← h3];simp
theorem ZV0 (h:Dwn G f root (A++x :: B) (D :: Ds)) (k:Abv G f root A x B ups) {key:Ky} (ha:At key A x B) :
 ∃ U it V,x.its=U++it :: V∧U.length=cnt key true (x.its.drop 1)∧∃ A' y B',D=A'++y :: B'∧it=Dl y∧Dwn G f root (A'++y :: B') Ds∧Abv G f root A' y B' (⟨A,x,U,V,B⟩ :: ups)∧At key A' y B':=by
 have ho:=Dwn.ord h
 have hsx:=(ho.2 x (by simp)).1
 have hhd:=h.1.head x (by simp)
 obtain ⟨i0,cs,hx⟩:∃ i0 cs,x.its=i0 :: cs:=by
  cases hi:x.its with
  | nil=>rw [hi] at hhd;simp at hhd
  | cons a b=>exact ⟨a,b,rfl⟩
 rw [hx] at hsx hhd
 have hk0:i0.k=x.lo:=by simpa using hhd
 obtain ⟨s1,s2⟩:=List.pairwise_cons.1 hsx;obtain ⟨c1,c2⟩:=Ym (key:=key) (past:=true) s2;have hle:=cnt_le key true cs
 have hdrop:x.its.drop 1=cs:=by rw [hx];rfl
 rw [hdrop]
 generalize hc:cnt key true cs=c at *
 have hlen:c<x.its.length:=by rw [hx];simp only [List.length_cons];omega
 have e:x.its=x.its.take c++x.its[c] :: x.its.drop (c+1):=by
  rw [List.getElem_cons_drop,List.take_append_drop]
 refine ⟨x.its.take c,x.its[c],x.its.drop (c+1),e,by rw [List.length_take];omega, ?_⟩
 obtain ⟨A',y,B',q1,q2,q3,q4,q5,q6⟩:=XT0 h k e
 refine ⟨A',y,B',q1,q2,q3,q4,⟨?_,fun b hb=>?_⟩⟩
 ·have hy:y.lo=(x.its[c]).k:=by rw [q2];rfl
  rw [hy]
  cases c with
  | zero =>
    have:(x.its[0]).k=x.lo:=by simp only [hx,List.getElem_cons_zero];exact hk0
    rw [this];exact ha.lo
  | succ j =>
    have hj:j<cs.length:=by omega
    have:x.its[j+1]=cs[j]:=by simp only [hx,List.getElem_cons_succ]
    rw [this]
    exact Ux.1 (c1 cs[j] (by rw [List.mem_take_iff_getElem];exact ⟨j,by omega,rfl⟩))
 ·have h1:Dl b∈B'.map Dl:=List.mem_map_of_mem hb
  rw [q6] at h1
  show ltK key (Dl b).k
  rcases List.mem_append.1 h1 with h1 | h1
  ·have h2:Dl b∈cs.drop c:=by rw [hx] at h1;exact h1
   have h3:=c2 _ h2
   refine UL0 fun hl=>?_
   rw [Ux.2 hl] at h3;cases h3
  ·obtain ⟨z,hz,hzi⟩:=List.mem_flatMap.1 h1
   exact ha.right ho z hz _ hzi
theorem ID0 (h:Dwn G f root (A++x :: B) []) {key:Ky} (ha:At key A x B):(∀ i∈A.flatMap (·.its)++x.its.take (cnt key false x.its),ltK i.k key)∧(∀ i∈x.its.drop (cnt key false x.its),leK key i.k)∧(∀ i∈B.flatMap (·.its),ltK key i.k):=by
 have ho:Wu (A++x :: B):=Dwn.ord h
 obtain ⟨c1,c2⟩:=Ym (key:=key) (past:=false) ((ho.2 x (by simp)).1)
 refine ⟨fun i hi=>?_,fun i hi=>?_,fun i hi=>?_⟩
 ·rcases List.mem_append.1 hi with hi | hi
  ·obtain ⟨z,hz,hzi⟩:=List.mem_flatMap.1 hi
   exact ha.left ho z hz i hzi
  ·exact BJ0.1 (c1 i hi)
 ·refine YL0 fun hl=>?_
  have:=c2 i hi;rw [BJ0.2 hl] at this;cases this
 ·obtain ⟨z,hz,hzi⟩:=List.mem_flatMap.1 hi
  exact ha.right ho z hz i hzi
theorem QN0 (h:Dwn G 0 root (A++x :: B) []) (k:Abv G 0 root A x B ups) (nd:(Eh (A++x :: B) [] ups).Nodup) (n0:∀ p∈Eh (A++x :: B) [] ups,p≠0) {X:List It} (h1:Srt X) (h2:∀ e∈X,leK x.lo e.k) (h3:∀ e∈X,∀ b∈B,ltK e.k b.lo) (hk:∀ i∈X,MD0 i) (hu:Ai X≤1256) :
 Pnd G root [] A ⟨x.n,x.lo,X⟩ B ups∧Eh (A++(⟨x.n,x.lo,X⟩:Nd) :: B) [] ups=Eh (A++x :: B) [] ups:=by
 have eo:Eh (A++(⟨x.n,x.lo,X⟩:Nd) :: B) [] ups=Eh (A++x :: B) [] ups:=by
  unfold Eh
  show (A++_ :: B).map (·.n)++_=(A++_ :: B).map (·.n)++_
  rw [List.map_append,List.map_cons,List.map_append,List.map_cons]
 have nd2:((A.map (·.n))++x.n :: (B.map (·.n))++(Xc ups)).Nodup:=by
  have:=nd;unfold Eh Ei at this
  simpa [List.map_append,List.append_assoc] using this
 obtain ⟨n1,n2,n3⟩:=Yd nd2;have hl:Hy G 0 root (A++x :: B):=h
 have hc:∀ p,p≠x.n→p∈Eh (A++x :: B) [] ups→p≠0∧G p=G p:=fun p _ hp=>⟨n0 p hp,rfl⟩
 have mem:∀ z∈A++x :: B,z.n∈Eh (A++x :: B) [] ups:=fun z hz=>List.mem_append_left _ (List.mem_map_of_mem hz)
 have hb2:∀ z∈A++(⟨x.n,x.lo,X⟩:Nd) :: B,z=⟨x.n,x.lo,X⟩∨(z∈A++x :: B):=fun z hz=>by
  rcases List.mem_append.1 hz with hz | hz
  ·exact .inr (by simp [hz])
  ·rcases List.mem_cons.1 hz with hz | hz
   ·exact .inl hz
   ·exact .inr (by simp [hz])
 refine ⟨⟨⟨BA1 hl.ord h1 h2 h3 x.n,fun z hz i hi=>?_,fun z hz=>?_, ?_,fun z hz hn=>?_⟩,k.congr (fun p hp hn=>hc p hn (List.mem_append_right _ hp)) rfl rfl,by rw [eo];exact nd,hu⟩,eo⟩
 ·rcases hb2 z hz with rfl | hz
  ·exact hk i hi
  ·exact hl.keys z hz i hi
 ·rcases hb2 z hz with rfl | hz
  ·exact hl.MU0 x (by simp)
  ·exact hl.MU0 z hz
 ·obtain ⟨p1,p2⟩:=Je.1 hl.pages
  refine Je.2 ⟨Js p1 (fun z hz hn=>hc z.n hn (mem z (by simp [hz]))),⟨fun hn=>absurd rfl hn,Js p2.2 (fun z hz hn=>hc z.n hn (mem z (by simp [hz])))⟩⟩
 ·rcases hb2 z hz with rfl | hz
  ·exact absurd rfl hn
  ·exact hl.fit z hz (hc z.n hn (mem z hz)).1
end
structure St where
 q:Nat
 G:Nat→Pg
 fr:List Nat
def Qq (p:Pg):Prop:=1≤p.1∧p.1≤5∧p.2.1≤2147483647∧Be p.2.2≤1012
def Kw (p:Pg):ByteArray:=Dc p.1 p.2.1 p.2.2
theorem Jg {k l:Nat} (h1:1≤k) (h5:k≤5) (hl:l≤2147483647):Qq (k,l,[]):=⟨h1,h5,hl,by show Be []≤1012;decide⟩
theorem FY0 {p:Pg} (h:Qq p):Hr (Kw p)=some p:=Ju.2 ⟨h.1,h.2.1,h.2.2.1,h.2.2.2,(Oh h).symm⟩
theorem Qh {p:Pg} (h:Qq p):(Kw p).size=1024:=Og h.1 h.2.1 h.2.2.1 h.2.2.2
def DH0 (G:Nat→Pg):List Nat→Prop
 | []=>True
 | x :: r=>G x=(3,r.headD 0,[])∧DH0 G r
structure St.In (S:St) (N:Bk) (free:Nat):Prop where
 q:N.q=S.q
 pg:∀ n,n<S.q→Qq (S.G n)∧N.K n=Kw (S.G n)
 fr:free=S.fr.headD 0
 chain:DH0 S.G S.fr
 root:S.G 0=(4,S.fr.headD 0,[])
 rng:∀ x∈S.fr,0<x∧x<S.q
 nd:S.fr.Nodup
 pos:0<S.q
 few:S.q≤65536
def St.set (S:St) (n:Nat) (p:Pg):St:={ S with G:=Hm S.G n p }
def St.alloc (S:St):St:=match S.fr with
 | []=>⟨S.q+1,Hm S.G S.q (3,0,[]),[]⟩
 | x :: r=>⟨S.q,Hm (Hm S.G 0 (4,r.headD 0,[])) x (3,0,[]),r⟩
def St.Ah (S:St):Nat:=S.fr.headD S.q
def St.free (S:St) (x:Nat):St:=⟨S.q,Hm (Hm S.G x (3,S.fr.headD 0,[])) 0 (4,x,[]),x :: S.fr⟩
theorem Jb {G G':Nat→Pg}:∀ {l:List Nat},DH0 G l→(∀ x∈l,G' x=G x)→DH0 G' l
 | [],_,_=>trivial
 | x :: r,h,hc=>⟨(hc x List.mem_cons_self).trans h.1,Jb h.2 fun y hy=>hc y (List.mem_cons_of_mem _ hy)⟩
section
variable {S:St} {N:Bk} {f:Nat}
theorem St.In.EL1 (h:S.In N f):S.fr.headD 0<S.q:=by
 cases hf:S.fr with
 | nil=>exact h.pos
 | cons x r=>exact (h.rng x (by rw [hf];exact List.mem_cons_self)).2
theorem St.In.set (h:S.In N f) {n:Nat} (h0:0<n) (hn:n<S.q) (hf:n∉S.fr) {p:Pg} (hp:Qq p):(S.set n p).In (N.put n (Kw p)) f:=by
 refine ⟨h.q,fun m hm=>?_,h.fr,Jb h.chain fun x hx=>Aq fun e=>hf (e ▸ hx), ?_,h.rng,h.nd,h.pos,h.few⟩
 ·show Qq (Hm S.G n p m)∧(if m=n then Kw p else N.K m)=Kw (Hm S.G n p m)
  by_cases e:m=n
  ·rw [if_pos e,e,Dj];exact ⟨hp,rfl⟩
  ·rw [if_neg e,Aq e];exact h.pg m hm
 ·show Hm S.G n p 0=_
  rw [Aq (by omega)];exact h.root
theorem St.In.new (h:S.In N f) (hf:S.fr=[]) (hq:S.q≤60000):S.alloc.In N.grow 0∧S.Ah=S.q:=by
 have e:S.alloc=⟨S.q+1,Hm S.G S.q (3,0,[]),[]⟩:=by unfold St.alloc;rw [hf]
 rw [e]
 refine ⟨⟨congrArg (·+ 1) h.q,fun m hm=>?_,rfl,trivial, ?_,(fun x hx=>by cases hx),List.nodup_nil,Nat.succ_pos _,by show S.q+1≤_;omega⟩,by unfold St.Ah;rw [hf];rfl⟩
 ·have hm2:m<S.q+1:=hm
  show Qq (Hm S.G S.q (3,0,[]) m)∧(if m=N.q then Gu else N.K m)=Kw (Hm S.G S.q (3,0,[]) m)
  rw [h.q]
  by_cases e:m=S.q
  ·rw [if_pos e,e,Dj];exact ⟨Jg (by omega) (by omega) (by omega),rfl⟩
  ·rw [if_neg e,Aq e];exact h.pg m (by omega)
 ·have hp:=h.pos
  show Hm S.G S.q (3,0,[]) 0=_
  rw [Aq (by omega),h.root,hf]
theorem St.In.old (h:S.In N f) {x:Nat} {r:List Nat} (hf:S.fr=x :: r):S.alloc.In ((N.put 0 (Dc 4 (r.headD 0) [])).put x Gu) (r.headD 0)∧S.Ah=x∧N.K x=Dc 3 (r.headD 0) []∧r.headD 0≤2147483647:=by
 have e:S.alloc=⟨S.q,Hm (Hm S.G 0 (4,r.headD 0,[])) x (3,0,[]),r⟩:=by unfold St.alloc;rw [hf]
 have hr:=h.rng x (by rw [hf];exact List.mem_cons_self)
 have hc:=h.chain;rw [hf] at hc;have hnd:=h.nd;rw [hf] at hnd;obtain ⟨n1,n2⟩:=List.nodup_cons.1 hnd;have hx:=h.pg x hr.2
 have hl:r.headD 0≤65536:=by
  have:=h.few
  cases hr2:r with
  | nil=>exact Nat.zero_le _
  | cons y t=>have:=(h.rng y (by rw [hf,hr2];simp)).2;show y≤_;omega
 rw [e]
 refine ⟨⟨h.q,fun m hm=>?_,rfl,Jb hc.2 fun y hy=>?_, ?_,fun y hy=>h.rng y (by rw [hf];exact List.mem_cons_of_mem _ hy),n2,h.pos,h.few⟩,by unfold St.Ah;rw [hf];rfl,by rw [hx.2,hc.1];rfl,by omega⟩
 ·show Qq (Hm (Hm S.G 0 (4,r.headD 0,[])) x (3,0,[]) m)∧(if m=x then Gu else if m=0 then Dc 4 (r.headD 0) [] else N.K m)=Kw (Hm (Hm S.G 0 (4,r.headD 0,[])) x (3,0,[]) m)
  by_cases e:m=x
  ·rw [if_pos e,e,Dj];exact ⟨Jg (by omega) (by omega) (by omega),rfl⟩
  ·rw [if_neg e,Aq e]
   by_cases e0:m=0
   ·rw [if_pos e0,e0,Dj];exact ⟨Jg (by omega) (by omega) (by omega),rfl⟩
   ·rw [if_neg e0,Aq e0];exact h.pg m hm
 ·have:y≠x:=fun e=>n1 (e ▸ hy)
  show Hm (Hm S.G 0 _) x _ y=S.G y
  rw [Aq this,Aq (by have:=(h.rng y (by rw [hf];exact List.mem_cons_of_mem _ hy)).1;omega)]
 ·show Hm (Hm S.G 0 _) x _ 0=_
  rw [Aq (by omega),Dj]
theorem St.In.freed (h:S.In N f) {x:Nat} (h0:0<x) (hx:x<S.q) (hf:x∉S.fr):(S.free x).In ((N.put x (Dc 3 f [])).put 0 (Dc 4 x [])) x:=by
 have hl:=h.EL1;have hfew:=h.few
 refine ⟨h.q,fun m hm=>?_,rfl,⟨?_,Jb h.chain fun y hy=>?_⟩,(Dj:Hm (Hm S.G x (3,S.fr.headD 0,[])) 0 (4,x,[]) 0=(4,x,[])),fun y hy=>?_,List.nodup_cons.2 ⟨hf,h.nd⟩,h.pos,h.few⟩
 ·show Qq (Hm (Hm S.G x (3,S.fr.headD 0,[])) 0 (4,x,[]) m)∧(if m=0 then Dc 4 x [] else if m=x then Dc 3 f [] else N.K m)=Kw (Hm (Hm S.G x (3,S.fr.headD 0,[])) 0 (4,x,[]) m)
  by_cases e0:m=0
  ·rw [if_pos e0,e0,Dj];exact ⟨Jg (by omega) (by omega) (by omega),rfl⟩
  ·rw [if_neg e0,Aq e0]
   by_cases e:m=x
   ·rw [if_pos e,e,Dj]
    exact ⟨Jg (by omega) (by omega) (by omega),by rw [h.fr];rfl⟩
   ·rw [if_neg e,Aq e];exact h.pg m hm
 ·show Hm (Hm S.G x _) 0 _ x=_
  rw [Aq (by omega),Dj]
 ·show Hm (Hm S.G x _) 0 _ y=_
  rw [Aq (by have:=(h.rng y hy).1;omega),Aq (fun e=>hf (by rw [← e];exact hy))]
 ·rcases List.mem_cons.1 hy with rfl | hy
  ·exact ⟨h0,hx⟩
  ·exact h.rng y hy
end
def PT (w:World) (X:List (Option Nat)) (p:Nat) (S S0:St) (c k:Nat):Prop :=
 ∃ b gd g m1 m2 e h t A P B N f0,X=allB b g m1 m2 p e h t A∧PM w b gd g m1 m2 p e h t A P∧Cal P B N c k∧S.In N P.free∧S0.In B f0
section
variable {w w':World} {X Y Y':List (Option Nat)} {p c k c' k':Nat} {S S0:St}
theorem PT.more (h:PT w X p S S0 c k) (hc:c≤c') (hk:k≤k'):PT w X p S S0 c' k':=by
 obtain ⟨b,gd,g,m1,m2,e,h,t,A,P,B,N,f0,h1,h2,h3,h4,h5⟩:=h;exact ⟨b,gd,g,m1,m2,e,h,t,A,P,B,N,f0,h1,h2,h3.more hc hk,h4,h5⟩
theorem PT.lt (h:PT w X p S S0 c k):∀ i,some i∈X→i<w.heap.size:=by
 obtain ⟨b,gd,g,m1,m2,e,h,t,A,P,B,N,f0,rfl,h2,h3,h4,h5⟩:=h;exact h2.lt
theorem PT.below (h:PT w X p S S0 c k) (hb:Below w.heap.size w w'):PT w' X p S S0 c k:=by
 obtain ⟨b,gd,g,m1,m2,e,h,t,A,P,B,N,f0,h1,h2,h3,h4,h5⟩:=h;exact ⟨b,gd,g,m1,m2,e,h,t,A,P,B,N,f0,h1,h2.below hb,h3,h4,h5⟩
theorem PT.far (h:PT w X p S S0 c k) (ht:Turn Y Y' w w') (hd:∀ i,some i∈Y→some i∉X):PT w' X p S S0 c k:=by
 obtain ⟨b,gd,g,m1,m2,e,h,t,A,P,B,N,f0,rfl,h2,h3,h4,h5⟩:=h;exact ⟨b,gd,g,m1,m2,e,h,t,A,P,B,N,f0,rfl,h2.far ht hd,h3,h4,h5⟩
end
def Hw (X:List (Option Nat)) (w:World) (p:Nat) (S S0:St) (c k:Nat) (v:Value) (en:Ending) (w':World):Prop:=en = .returned v∧∃ X',PT w' X' p S S0 c k∧Turn X X' w w'
section
variable {w:World} {X:List (Option Nat)} {p c k:Nat} {S S0:St}
theorem JC0 {P:Pl} {B N:Bk} (h:Cal P B N c k) (hk:k≤900000000):Fit P.L.D 80000:=⟨h.pin.ok.log.disk,by have:=h.count;omega,by have:=h.waits;omega⟩
theorem WG0 (h:PT w X p S S0 c k) (hc:c≤60000) (hk:k≤900000000) {n:Nat} (hn:n<S.q) :
 Calls Tryz.prog 70 #[.pointer (some ⟨p,0,none⟩),.int .i64 n] w (Hw X w p S S0 c (k+1) (.tuple #[.string (Kw (S.G n)),.int .i64 0])):=by
 obtain ⟨b,gd,g,m1,m2,e,h,t,A,P,B,N,f0,rfl,h2,h3,h4,h5⟩:=h
 obtain ⟨a1,a2,a3⟩:=h3.get hc (x:=n) (by rw [h4.q];exact hn)
 have hfew:=h4.few
 refine (DZ0 b gd g m1 m2 p e h t A P n (by unfold KH0;omega) w h2 h3.pin.ok ((JC0 h3 hk).less (by omega))).mono ?_
 rintro en w' ⟨he,b',n1,n2,A',q1,q2⟩
 refine ⟨?_,_,⟨b',gd,g,n1,n2,e,h,t,A',_,B,N,f0,rfl,q1,a2, ?_,h5⟩,q2⟩
 ·rw [he,a1,a3,(h4.pg n hn).2]
 ·rw [(HV0 (P:=P) n).2.2.1];exact h4
theorem IB0 (h:PT w X p S S0 c k) (hc:c≤60000) (hk:k≤900000000) {n:Nat} (h0:0<n) (hn:n<S.q) (hf:n∉S.fr) {pg:Pg} (hp:Qq pg) :
 Calls Tryz.prog 72 #[.pointer (some ⟨p,0,none⟩),.int .i64 n,.string (Kw pg)] w (Hw X w p (S.set n pg) S0 (c+1) (k+1) (.int .i64 0)):=by
 obtain ⟨b,gd,g,m1,m2,e,h,t,A,P,B,N,f0,rfl,h2,h3,h4,h5⟩:=h
 obtain ⟨a1,a2⟩:=h3.write hc (x:=n) (by rw [h4.q];exact hn) (Qh hp) (by omega)
 have hfew:=h4.few
 refine (UA0 b gd g m1 m2 p e h t A P n (by unfold KH0;omega) (Kw pg) w h2 h3.pin.ok ((JC0 h3 hk).less (by omega))).mono ?_
 rintro en w' ⟨he,b',n1,n2,A',q1,q2⟩
 have e1:P.write n (Kw pg)=P.put n (Kw pg):=if_neg (by rw [Qh hp];omega)
 refine ⟨by rw [he,a1],_,⟨b',gd,g,n1,n2,e,h,t,A',_,B,N.put n (Kw pg),f0,rfl,q1,a2, ?_,h5⟩,q2⟩
 obtain ⟨p1,p2,p3,p4,p5⟩:=QL0 h3.pin (Nat.le_trans h3.wt hc) n (s:=Kw pg) (Qh hp);rw [e1,p4];exact h4.set h0 hn hf hp
theorem BL0 (h:PT w X p S S0 c k) (hc:c+1≤60000) (hk:k≤900000000) (hq:S.q≤60000) :
 Calls Tryz.prog 45 #[.pointer (some ⟨p,0,none⟩)] w (Hw X w p S.alloc S0 (c+2) (k+4) (.tuple #[.int .i64 S.Ah,.int .i64 0])):=by
 obtain ⟨b,gd,g,m1,m2,e,h,t,A,P,B,N,f0,rfl,h2,h3,h4,h5⟩:=h
 refine (TT0 b gd g m1 m2 p e h t A P w h2 h3.pin.ok ((JC0 h3 hk).less (by omega))).mono ?_
 rintro en w' ⟨he,b',n1,n2,A',q1,q2⟩
 by_cases hf:S.fr=[]
 ·have hfree:P.free=0:=by rw [h4.fr,hf];rfl
  obtain ⟨a1,a2,a3,a4⟩:=h3.ZL0 (by omega) (by rw [h4.q];exact hq) hfree
  obtain ⟨i1,i2⟩:=h4.new hf hq
  refine ⟨?_,_,⟨b',gd,g,n1,n2,e,h,t,A',_,B,N.grow,f0,rfl,q1,a3.more (by omega) (Nat.le_refl _),by rw [a4];exact i1,h5⟩,q2⟩
  rw [he,a1,i2];unfold Pl.Nz;rw [if_pos a1,a2,h4.q]
 ·obtain ⟨x,r,hfr⟩:=List.exists_cons_of_ne_nil hf
  have hx:=h4.rng x (by rw [hfr];exact List.mem_cons_self)
  have hfree:P.free=x:=by rw [h4.fr,hfr];rfl
  obtain ⟨i1,i2,i3,i4⟩:=h4.old hfr
  obtain ⟨a1,a2,a3,a4⟩:=h3.BJ1 hc (by omega) (by rw [hfree,h4.q];exact hx.2) i4 (by rw [hfree];exact i3)
  rw [hfree] at a3
  refine ⟨?_,_,⟨b',gd,g,n1,n2,e,h,t,A',_,B,_,f0,rfl,q1,a3,by rw [a4];exact i1,h5⟩,q2⟩
  rw [he,a1,i2];unfold Pl.Nz;rw [if_pos a1,a2,hfree]
theorem Zi (h:PT w X p S S0 c k) (hc:c+2≤60000) (hk:k≤900000000) {x:Nat} (h0:0<x) (hx:x<S.q) (hf:x∉S.fr) :
 Calls Tryz.prog 80 #[.pointer (some ⟨p,0,none⟩),.int .i64 x] w (Hw X w p (S.free x) S0 (c+2) (k+3) (.int .i64 0)):=by
 obtain ⟨b,gd,g,m1,m2,e,h,t,A,P,B,N,f0,rfl,h2,h3,h4,h5⟩:=h;have hfew:=h4.few
 obtain ⟨a1,a2,a3⟩:=h3.free hc (x:=x) (by rw [h4.q];exact hx) (by omega)
 refine (XI0 b gd g m1 m2 p e h t A P x (by unfold KH0;omega) w h2 h3.pin.ok ((JC0 h3 hk).less (by omega))).mono ?_
 rintro en w' ⟨he,b',n1,n2,A',q1,q2⟩
 exact ⟨by rw [he,a1],_,⟨b',gd,g,n1,n2,e,h,t,A',_,B,_,f0,rfl,q1,a2,by rw [a3];exact h4.freed h0 hx hf,h5⟩,q2⟩
end
open Go.BigFrame
theorem Et (w:World):Calls Tryz.prog 129 #[.int .i64 0] w fun e w'=>e = .returned (.tuple #[])∧w=w':=by
 go_enter Tryz.func129,Tryz.ntmps129
 go_wp2
 go_end0
 exact ⟨rfl,rfl⟩
theorem Yv (s:ByteArray) (hs:s.size≤9223372036854775807) (w:World):Calls Tryz.prog 48 #[.string s] w fun e w'=>e = .returned (.bool (decide (1≤s.size∧s.size≤200)))∧w=w':=by
 by_cases h1:1≤s.size
 ·by_cases h2:s.size≤200
  ·rw [decide_eq_true (show 1≤s.size∧s.size≤200 from ⟨h1,h2⟩)]
   have e1:decide ((1:Int)≤(s.size:Int))=true:=by simp;omega
   have e2:decide ((s.size:Int)≤200)=true:=by simp;omega
   go_enter Tryz.func48,Tryz.ntmps48
   go_wp2
   go_ret
   exact ⟨rfl,rfl⟩
  ·rw [decide_eq_false (fun h:1≤s.size∧s.size≤200=>h2 h.2)]
   have e2:decide ((s.size:Int)≤200)=false:=by simp;omega
   go_enter Tryz.func48,Tryz.ntmps48
   go_wp2
   go_ret
   exact ⟨rfl,rfl⟩
 ·rw [decide_eq_false (fun h:1≤s.size∧s.size≤200=>h1 h.1)]
  have e1:decide ((1:Int)≤(s.size:Int))=false:=by simp;omega
  go_enter Tryz.func48,Tryz.ntmps48
  go_wp2
  go_ret
  exact ⟨rfl,rfl⟩
theorem Vq {s:ByteArray} (h:0<s.size):s.toList.isEmpty=false:=by
 rw [Lib.toList_data]
 cases hl:s.data.toList with
 | nil =>
   have h2:s.data.toList.length=s.size:=Array.length_toList;rw [hl] at h2;have:(0:Nat)=s.size:=h2;omega
 | cons a l=>rfl
theorem SU0 (s:ByteArray) (h0:0<s.size) (h1:1+s[0].toNat≤s.size) (hs:s.size≤100000) (w:World):Calls Tryz.prog 51 #[.string s] w fun e w'=>e = .returned (.string (s.extract 1 (1+s[0].toNat)))∧w=w':=by
 have e0:=Vq h0;have b0:=Ci s[0]
 have e1:decide ((s.size:Int)<1+(s[0].toNat:Int))=false:=by simp;omega
 have i1:(0:Int)<(s.size:Int):=by omega
 go_enter Tryz.func51,Tryz.ntmps51
 go_wp2
 go_ret
 exact ⟨rfl,rfl⟩
theorem cell0 (i:It) (hk:i.k.length≤200):∃ h0:0<(Af i).size,((Af i)[0]'h0).toNat=i.k.length∧(Af i).extract 1 (1+i.k.length)=bsK i.k∧(Af i).extract (1+i.k.length) (Af i).size=bsK i.r:=by
 have hz:=Ef i
 refine ⟨by omega, ?_, ?_, ?_⟩
 ·show (((Af i).data[0]'(by show 0<(Af i).size;omega))).toNat=_
  simp only [Af,bsK,cellL,List.getElem_toArray,List.getElem_cons_zero,UInt8.toNat_ofNat'];omega
 ·rw [← Yk ((Af i).extract 1 (1+i.k.length)),Lib.extract_data]
  congr 1
  rw [Af,Dn,cellL,List.drop_succ_cons,List.drop_zero,show 1+i.k.length-1=i.k.length by omega,List.take_left']
  rfl
 ·rw [← Yk ((Af i).extract (1+i.k.length) (Af i).size),Lib.extract_data]
  congr 1
  rw [hz,Af,Dn,cellL,Nat.add_comm 1,List.drop_succ_cons,List.drop_left',List.take_of_length_le (by omega)]
  rfl
theorem Po (i:It) (hk:i.k.length≤200) (hr:i.r.length≤5000) (w:World):Calls Tryz.prog 51 #[.string (Af i)] w fun e w'=>e = .returned (.string (bsK i.k))∧w=w':=by
 obtain ⟨h0,h1,h2,h3⟩:=cell0 i hk;have hz:=Ef i
 have:=SU0 (Af i) h0 (by omega) (by omega) w
 rw [h1,h2] at this;exact this
theorem Xu (i:It) (hk:i.k.length≤200) (hr:i.r.length≤5000) (w:World):Calls Tryz.prog 136 #[.string (Af i)] w fun e w'=>e = .returned (.string (bsK i.r))∧w=w':=by
 obtain ⟨h0,h1,h2,h3⟩:=cell0 i hk;have K:=Ac (Po i hk hr w);have hz:=Ef i;have H3:=Ac h3;have hb:(bsK i.k).size=i.k.length:=Bo _;have HB:=Ac hb
 generalize Af i=s at *
 generalize bsK i.k=kk at *
 clear h1 h2 h3 hb
 have e1:(1+kk.size:Int)≤(s.size:Int):=by rw [HB.out];omega
 have e2:(1+kk.size)≤s.size:=by rw [HB.out];omega
 have e3:kk.size≤200:=by rw [HB.out];exact hk
 clear hz h0
 go_enter Tryz.func136,Tryz.ntmps136
 go_wp2_with (first | (go_at_call 51;refine (K.out).mono ?_;rintro e w1 ⟨rfl,rfl⟩))
 go_ret
 exact ⟨by show Ending.returned (.string (s.extract (1+kk.size) s.size))=_;rw [HB.out,H3.out],rfl⟩
theorem RE0 (l:Ky):bsK l=bsOf l:=rfl
theorem VD0 (n:Nat):Ak n=beK n 4:=(FP1 n).symm
theorem ZC0 {r:Ky} (h:r.length=4):Dz r=unK (r.take 4):=by
 match r,h with
 | [a,b,c,d],_ =>
   rw [FJ1];unfold Dz;simp only [List.getD_cons_zero,List.getD_cons_succ];omega
theorem Jh (n:Nat) (hn:n≤4611686018427387904) (w:World):Calls Tryz.prog 134 #[.int .i64 n] w fun e w'=>e = .returned (.string (bsK (Ak n)))∧Below w.heap.size w w':=by
 rw [VD0,RE0];have hcv:=LJ0 w n;obtain ⟨S,hS⟩:∃ S,bsOf (beK n 4)=S:=⟨_,rfl⟩;rw [hS] at hcv ⊢
 go_enter Tryz.func134,Tryz.ntmps134
 go_wp2
 go_ret
 exact ⟨rfl,(Below.refl _ _).alloc (Nat.le_refl _) _⟩
theorem MI0 (s:ByteArray) (h4:s.size=4) (w:World):Calls Tryz.prog 137 #[.string s] w fun e w'=>e = .returned (.int .i64 (unK (s.data.toList.take 4):Nat))∧Below w.heap.size w w':=by
 have h0:0<s.size:=by omega
 have h1:1<s.size:=by omega
 have h2:2<s.size:=by omega
 have h3:3<s.size:=by omega
 have hl:s.data.toList=s[0] :: s[1] :: s[2] :: s[3] :: s.data.toList.drop 4:=by
  have e (i:Nat) (h:i<s.size):s.data.toList[i]'(by simpa using h)=s[i]:=by simp [ByteArray.getElem_eq_getElem_data]
  rw [← e 0 h0,← e 1 h1,← e 2 h2,← e 3 h3];rw [← List.drop_eq_getElem_cons,← List.drop_eq_getElem_cons,← List.drop_eq_getElem_cons,← List.drop_eq_getElem_cons];rfl
 have E:=Ac (show unK (s.data.toList.take 4)=s[0].toNat*16777216+s[1].toNat*65536+s[2].toNat*256+s[3].toNat by rw [hl];exact FJ1 _ _ _ _ _)
 clear hl;rw [E.out];have b0:=Ci s[0];have b1:=Ci s[1];have b2:=Ci s[2];have b3:=Ci s[3]
 have O:=Ac (show ∀ a b c d:Nat,a<256→b<256→c<256→d<256→bits .or .i64 (bits .or .i64 (bits .or .i64 ((a:Int)*16777216) ((b:Int)*65536)) ((c:Int)*256)) (d:Int)=((a*16777216+b*65536+c*256+d:Nat):Int) from fun a b c d ha hb hc hd=>by
  have e1:=Vo 24 (a*16777216) (b*65536) (by omega) (by omega) (by omega)
  have e2:=Vo 16 (a*16777216+b*65536) (c*256) (by omega) (by omega) (by omega)
  have e3:=Vo 8 (a*16777216+b*65536+c*256) d (by omega) (by omega) (by omega)
  rw [← e3,← e2,← e1]
  simp only [Int.natCast_mul];rfl)
 have i1:(1:Int)<(s.size:Int):=by omega
 have i2:(2:Int)<(s.size:Int):=by omega
 have i3:(3:Int)<(s.size:Int):=by omega
 have n4:((s.size:Int) != 4)=false:=by rw [bne_eq_false_iff_eq];omega
 have H4:=Ac h4;clear h4
 go_enter Tryz.func137,Tryz.ntmps137
 go_wp2_with fail
 refine Bz (w) (by kernel_rfl) (by kernel_rfl) (Cls.start _) ?_
 repeat
  first
   | go_big_quiet_skip
   | (go_big_quiet_want;(first | go_big_quiet_op | go_simp);first | go_big_quiet_on | (apply Exists.intro;refine ⟨fun w' hw'=>?_, ?_⟩;(·(first | (with_reducible exact rfl) | (fail) | (obtain ⟨hc,hf⟩:=hw'.facts;go_simp;first | done | (with_reducible exact rfl) | (with_reducible exact ⟨rfl,rfl⟩))));go_big_quiet_on))
 refine wpQuiet_nil ?_
 intro wq hq
 go_wp2_with fail
 go_ret
 exact ⟨Zk (O.out _ _ _ _ b0 b1 b2 b3),hq.bel⟩
theorem Vs (r:Ky) (h4:r.length=4) (w:World):Calls Tryz.prog 137 #[.string (bsK r)] w fun e w'=>e = .returned (.int .i64 (Dz r))∧Below w.heap.size w w':=by
 have:=MI0 (bsK r) (by rw [Bo,h4]) w
 rw [Dn,← ZC0 h4] at this;exact this
theorem BV1 (w:World) (n:Nat):(convert 39 9 (.slice (some ⟨w.heap.size,0,none⟩) 1 1)).run Tryz.prog (w.alloc (.cells #[.int .u8 ((n:Int) % 256)] 5)) = .ok (.string (bsOf [UInt8.ofNat n])) (w.alloc (.cells #[.int .u8 ((n:Int) % 256)] 5)):=by
 have:=Wv (c:=1) (BS.GA0 (Has.new w 5 (u8s [UInt8.ofNat n]).toArray))
 have e:u8s [UInt8.ofNat n]=[.int .u8 ((n:Int) % 256)]:=by
  simp only [u8s,u8v,List.map_cons,List.map_nil,Lc]
 rw [e] at this;exact this
theorem IU0 (a b:Ky):bsK a++bsK b=bsK (a++b):=by
 have:(bsK a++bsK b).data.toList=a++b:=by simp [bsK]
 rw [← Yk (bsK a++bsK b),this]
theorem Ih (i:It) (hk:i.k.length≤200) (hr:i.r.length≤5000) (w:World):Calls Tryz.prog 133 #[.string (bsK i.k),.string (bsK i.r)] w fun e w'=>e = .returned (.string (Af i))∧Below w.heap.size w w':=by
 have hcv:=BV1 w i.k.length
 rw [show (i.k.length:Int) % 256=i.k.length by omega] at hcv
 have ha:(bsK i.k).size=i.k.length:=Bo _;have hb:(bsK i.r).size=i.r.length:=Bo _
 have E:=Ac (show bsK [UInt8.ofNat i.k.length]++bsK i.k++bsK i.r=Af i by rw [IU0,IU0];rfl)
 have hs:(bsK [UInt8.ofNat i.k.length]).size=1:=Bo _;rw [← RE0] at hcv
 generalize bsK [UInt8.ofNat i.k.length]=x at *
 generalize bsK i.k=a at *
 generalize bsK i.r=b at *
 rw [← E.out];have HA:=Ac ha
 have z1:a.size≤200:=by omega
 have z2:b.size≤5000:=by omega
 have z3:x.size≤1:=by omega
 rw [← ha] at hcv;clear ha hb hs
 go_enter Tryz.func133,Tryz.ntmps133
 go_wp2
 go_ret
 exact ⟨rfl,(Below.refl _ _).alloc (Nat.le_refl _) _⟩
abbrev ndV (n k l:Nat) (v:Value):Value:=.agg #[.int .i64 n,.int .i64 k,.int .i64 l,v]
theorem CO0 (n k l:Nat) (v:Value) (w:World):Calls Tryz.prog 130 #[ndV n k l v] w fun e w'=>e = .returned (.bool ((k:Int) == 1))∧Below w.heap.size w w':=by
 go_enter Tryz.func130,Tryz.ntmps130
 go_wp2
 go_ret
 exact ⟨rfl,(Below.refl _ _).alloc (Nat.le_refl _) _⟩
def LX0 (l:List It):Prop:=∀ i∈l,i.k.length≤200∧i.r.length≤5000
theorem HJ0 {w:World} {A:Option Addr} {m:Nat} {l:List It} (h:SS w A m (l.map Af)):l.length=m∧(0<m→∃ b off,A=some ⟨b,off,none⟩∧b<w.heap.size∧∀ i (hi:i<l.length),w.cell? ⟨b,off+i,none⟩=some (.string (Af l[i]))):=by
 refine ⟨by have:=h.1;simpa using this,fun hm=>?_⟩
 obtain ⟨b,off,h1,h2,h3⟩:=h.2 hm
 exact ⟨b,off,h1,h2,fun i hi=>h3 i _ (by simp [hi])⟩
theorem Pj (a b:Ky):Op.bytesLess (bsK a).toList (bsK b).toList=Op.bytesLess a b:=by rw [Lib.toList_data,Lib.toList_data,Dn,Dn]
theorem PW0 (a b:Ky):((bsK a).toList == (bsK b).toList)=(a == b):=by rw [Lib.toList_data,Lib.toList_data,Dn,Dn]
theorem JT0 (n k l m c:Nat) (A:Option Addr) (its:List It) (key:Ky) (past:Bool) (w:World) (h:SS w A m (its.map Af)) (hw:LX0 its) (hs:Srt its) (hm:m≤1000000) :
 Calls Tryz.prog 131 #[ndV n k l (.slice A m c),.string (bsK key),.bool past] w fun e w'=>e = .returned (.int .i64 (cnt key past its))∧Below w.heap.size w w':=by
 obtain ⟨hl,hcell⟩:=HJ0 h;have hcl:=cnt_le key past its
 have CL:=Ac (fun (i:Nat) (hi:i<its.length)=>cnt_lt (key:=key) (past:=past) hs hi)
 have HW:=Ac hw
 generalize hcn:cnt key past its=cn at *
 rw [hl] at hcl;have HC:=Ac hcell;have HL:=Ac hl;obtain ⟨K,hK⟩:∃ K,bsK key=K:=⟨_,rfl⟩
 have HKL:=Ac (fun i:Ky=>(Pj i key).symm)
 have HKE:=Ac (fun i:Ky=>(PW0 i key).symm)
 rw [hK] at HKL HKE ⊢;clear h hcell hl hw hs hcn hK
 cases past
 all_goals
  go_enter Tryz.func131,Tryz.ntmps131
  go_wp2_with fail
  obtain ⟨W,hW⟩:∃ W,w.alloc (.cells #[.int .i64 n,.int .i64 k,.int .i64 l,.slice A m c] 116)=W:=⟨_,rfl⟩
  have d2:Hid (∀ b o,b<w.heap.size→W.cell? ⟨b,o,none⟩=w.cell? ⟨b,o,none⟩):=Ac (by subst hW;exact (Vf ((Below.refl w.heap.size w).alloc (Nat.le_refl _) _)).1)
  have d3:W.cell? ⟨w.heap.size,3,none⟩=some (.slice A m c):=by subst hW;exact (Has.new w _ _).cell 3
  have dz:w.heap.size<W.heap.size:=by subst hW;simp
  have HB:=Ac (show Below w.heap.size w W by subst hW;exact (Below.refl _ _).alloc (Nat.le_refl _) _)
  rw [hW];clear hW
  refine Bz (W) (by kernel_rfl) (by kernel_rfl) (Cls.start _) ?_
  repeat
   first
    | go_big_quiet_skip
    | (go_big_quiet_want;(first | go_big_quiet_op | go_simp);first | go_big_quiet_on | (apply Exists.intro;refine ⟨fun w' hw'=>?_, ?_⟩;(·(first | (with_reducible exact rfl) | (fail) | (obtain ⟨hc,hf⟩:=hw'.facts;go_simp;first | done | (with_reducible exact rfl) | (with_reducible exact ⟨rfl,rfl⟩))));go_big_quiet_on))
  refine wpQuiet_nil ?_
  intro wq hq
  go_wp2_with fail
  have wz:=hq.bel.size
  have HBq:=Ac (Am HB.out hq.bel (by omega))
  have q3:wq.cell? ⟨w.heap.size,3,none⟩=some (.slice A m c):=(hq.facts.1 _ _ dz).trans d3
  have QC:Hid (0<m→∃ b off,A=some ⟨b,off,none⟩∧∀ i (hi:i<its.length),wq.cell? ⟨b,off+i,none⟩=some (.string (Af its[i]))):=Ac (fun h0=>by
   obtain ⟨b,off,h1,h2,h3⟩:=HC.out h0
   exact ⟨b,off,h1,fun i hi=>(hq.facts.1 _ _ (by omega)).trans ((d2.out _ _ h2).trans (h3 i hi))⟩)
  clear hq dz d2 d3 HC HB
  go_loop [7,8] (fun lo hi=>∃ a b:Nat,a≤cn∧cn≤b∧b≤m∧lo = .int .i64 a∧hi = .int .i64 b) (fun lo hi=>(intOf hi-intOf lo).toNat)
  case atStart=>exact ⟨0,m,Nat.zero_le _,hcl,Nat.le_refl _,rfl,rfl⟩
  case round =>
   obtain ⟨a,b,h1,h2,h3,rfl,rfl⟩:=hrel
   by_cases hab:a<b
   ·have hm2:(a+b) / 2<its.length:=by rw [HL.out];omega
    obtain ⟨B,off,hA,hc⟩:=QC.out (by omega)
    have hcc:=hc _ hm2;have hkk:=Po its[(a+b) / 2] (HW.out _ (List.getElem_mem _)).1 (HW.out _ (List.getElem_mem _)).2;obtain ⟨c1,c2⟩:=CL.out _ hm2;have e1:=HKL.out its[(a+b) / 2].k;have e2:=HKE.out its[(a+b) / 2].k;unfold ahead at c1 c2;rw [e1,e2] at c1 c2;obtain ⟨v,hv⟩:∃ v,Af its[(a+b) / 2]=v:=⟨_,rfl⟩;obtain ⟨kk,hk2⟩:∃ kk,bsK its[(a+b) / 2].k=kk:=⟨_,rfl⟩;rw [hv] at hcc hkk;rw [hk2] at hkk c1 c2;subst hA
    have HK:=Ac hkk
    have hm3:(a+b) / 2<m:=by omega
    clear hkk hc e1 e2 hv hk2 hm2 hcl
    go_wp2_with (first | (go_at_call 51;refine (HK.out _).mono ?_;rintro e w1 ⟨rfl,rfl⟩))
    all_goals
     go_round
     case rel =>
      first
       | exact ⟨(a+b) / 2+1,b,c1 (by simp [*]),h2,h3,by go_num,rfl⟩
       | exact ⟨a,(a+b) / 2,h1,c2 (by simp [*]),by omega,rfl,by go_num⟩
     case measure=>simp [intOf];omega
   ·have:a=b:=by omega
    subst this
    obtain rfl:a=cn:=by omega
    go_wp2_with fail
    go_ret
    exact ⟨rfl,HBq.out⟩
theorem OT0 (n k l:Nat) (v:Value) (w:World):Calls Tryz.prog 132 #[ndV n k l v,.int .i64 0] w fun e w'=>e = .returned (.int .i64 l)∧Below w.heap.size w w':=by
 go_enter Tryz.func132,Tryz.ntmps132
 go_wp2
 go_ret
 exact ⟨rfl,(Below.refl _ _).alloc (Nat.le_refl _) _⟩
theorem TN0 (n k l m c:Nat) (A:Option Addr) (cs:List It) (w:World) (h:SS w A m (cs.map Af)) (i:Nat) (hi:i<cs.length) (hw:LX0 cs) (hr:cs[i].r.length=4) (hm:m≤1000000) :
 Calls Tryz.prog 132 #[ndV n k l (.slice A m c),.int .i64 ((i+1:Nat):Int)] w fun e w'=>e = .returned (.int .i64 (Dz cs[i].r))∧Below w.heap.size w w':=by
 obtain ⟨hl,hcell⟩:=HJ0 h
 obtain ⟨b,off,rfl,hb,hc⟩:=hcell (by omega)
 have h1:=hc i hi;have RS:=Ac (Xu cs[i] (hw _ (List.getElem_mem _)).1 (hw _ (List.getElem_mem _)).2);have NU:=Ac (Vs cs[i].r hr)
 have him:i<m:=by omega
 have e0:(((i+1:Nat):Int) == 0)=false:=by rw [beq_eq_false_iff_ne];omega
 have e1:(((i+1:Nat):Int)-1)=(i:Int):=by omega
 generalize Af cs[i]=v at *
 generalize bsK cs[i].r=r at *
 generalize Dz cs[i].r=N at *
 have E1:=Ac e1
 generalize ((i+1:Nat):Int)=j at *
 clear h hcell hc hw hr hl e1
 have j1:j=i+1:=by have:=E1.out;omega
 subst j1
 go_enter Tryz.func132,Tryz.ntmps132
 go_wp2_with (first | (go_at_call 136;refine (RS.out _).mono ?_;rintro e w1 ⟨rfl,rfl⟩) | (go_at_call 137;refine (NU.out _).mono ?_;rintro e w1 ⟨rfl,hb⟩;obtain ⟨hc,hf⟩:=Vf hb;have hz:=hb.size;(try simp at hz);have hz0:w.heap.size<w1.heap.size:=(by omega)))
 go_ret
 refine ⟨rfl, ?_⟩
 (repeat (first | exact Below.refl _ _ | assumption | (refine Below.setCell ?_ (by first | omega | (simp <;> omega)) _) | refine Below.drew ?_ | (refine Below.alloc ?_ (by first | omega | (simp <;> omega)) _) | (refine Am ?_ (by assumption) (by first | omega | (simp <;> omega)))))
end Go.Proofs.YtjihboddejaelaaGreat
