/-
  A pool in plain Lean: Commit, Rollback, Open; a pool that is only read. No program in sight.
-/
import Derived.Test.YtjihboddejaelaaGreatPr14
import Derived.Test.YtjihboddejaelaaGreatPr11
import Derived.Test.YtjihboddejaelaaGreatPr5
import Derived.Test.YtjihboddejaelaaGreatPr8
import Derived.Test.YtjihboddejaelaaGreatPr3
import Derived.Deep.RegionHeld3
import Derived.Test.YtjihboddejaelaaGreatPr12
set_option linter.unusedVariables false
set_option linter.unusedSimpArgs false
namespace Go.Proofs.YtjihboddejaelaaGreat
open Go.RowKit
def Pl.flushed (P:Pl):Pl×Int:=if dirtyN P.ring=[] then (if (P.get 0).2=0 then Pl.flush [0] (P.get 0).1 else P.get 0) else Pl.flush (dirtyN P.ring) P
theorem commit_flushed (P:Pl):P.commit=if P.turned=[] then (P,0) else Pl.told P.flushed:=by
 unfold Pl.commit Pl.flushed
 by_cases h1:P.turned=[]
 ·rw [if_pos h1,if_pos h1]
 ·rw [if_neg h1,if_neg h1]
  by_cases h2:dirtyN P.ring=[]
  ·rw [if_pos h2,if_pos h2]
   by_cases h3:(P.get 0).2=0
   ·rw [if_pos h3,if_pos h3]
   ·rw [if_neg h3,if_neg h3]
    exact (if_neg h3).symm
  ·rw [if_neg h2,if_neg h2]
theorem clean_mem {F:List Pf} {n:Nat} {g:Pf} (h:g∈cleanN n F):∃ f∈F,g.n=f.n∧g.s=f.s∧g.pins=f.pins∧(g.dirty=true→f.dirty=true∧f.n≠n):=by
 obtain ⟨f,hf,e⟩:=List.mem_map.1 h
 refine ⟨f,hf, ?_⟩
 split at e
 ·rw [← e];exact ⟨rfl,rfl,rfl,fun h=>by cases h⟩
 ·rename_i hn;rw [← e];exact ⟨rfl,rfl,rfl,fun h=>⟨h,hn⟩⟩
theorem mem_clean {F:List Pf} {n:Nat} {f:Pf} (h:f∈F) (hn:f.n≠n):f∈cleanN n F:=List.mem_map.2 ⟨f,h,if_neg hn⟩
section
variable {B N:Bk} {P:Pl} {T:Nat→Option ByteArray}
theorem PInv.textN (h:PInv P B N) {n:Nat} (hn:n∈P.ring.map (·.n)):textN n P.ring=N.K n∧(N.K n).size=1024∧n<N.q∧n≤65536:=by
 obtain ⟨f,hf,rfl⟩:=List.mem_map.1 hn
 have h1:=h.ring f hf
 have h2:=h.up f hf
 have h3:=h.ok.size f hf
 obtain ⟨F1,F2,e⟩:=List.append_of_mem hf
 have nm:=h.ok.names
 rw [e] at nm
 refine ⟨?_,by rw [← h1.2.1];exact h3,h2.1,h2.2⟩
 rw [e,text_mid nm];exact h1.2.1
theorem get_dirty {P:Pl} (x:Int):∀ f∈(P.get x).1.ring,f.dirty=true→f∈P.ring:=by
 obtain ⟨s1,s2,s3,s4,s5⟩:=room_same (P:=P)
 unfold Pl.get
 split
 ·split
  ·rename_i f hfd
   intro g hg _
   rcases List.mem_append.1 hg with hg | hg
   ·exact (dropN_sub _ _).subset hg
   ·rw [List.mem_singleton.1 hg]
    exact List.mem_of_find?_eq_some hfd
  ·split
   ·unfold Pl.fetch
    split
    ·intro g hg hd
     rcases List.mem_append.1 hg with hg | hg
     ·exact s5 g hg
     ·rw [List.mem_singleton.1 hg] at hd;cases hd
    ·exact fun g hg _=>s5 g hg
   ·exact fun g hg _=>s5 g hg
 ·exact fun g hg _=>hg
theorem dirtyN_mem {F:List Pf} {n:Nat}:n∈dirtyN F↔∃ f∈F,f.dirty=true∧f.n=n:=by
 unfold dirtyN
 rw [List.mem_mergeSort,List.mem_map]
 constructor
 ·rintro ⟨f,hf,e⟩
  exact ⟨f,(List.mem_filter.1 hf).1,(List.mem_filter.1 hf).2,e⟩
 ·rintro ⟨f,hf,hd,e⟩
  exact ⟨f,List.mem_filter.2 ⟨hf,hd⟩,e⟩
theorem no_dirty {F:List Pf} (h:∀ f∈F,f.dirty=false):F.filter (·.dirty)=[]:=List.filter_eq_nil_iff.2 fun f hf=>by rw [h f hf];decide
theorem PInv.noTurned {P:Pl} {N:Bk} (h:PInv P N N) (hd:∀ f∈P.ring,f.dirty=false):PInv { P with turned:=[] } N N :=
 ⟨⟨h.ok.log,h.ok.names,h.ok.pages,h.ok.size,h.ok.most,h.ok.full,h.ok.few,h.ok.link,List.nodup_nil,fun x hx=>by cases hx⟩,h.log,h.pages,h.most,fun f hf=>⟨(h.ring f hf).1,(h.ring f hf).2.1,fun h2=>by rw [hd f hf] at h2;cases h2⟩,h.lies,fun n hn _=>⟨hn,rfl⟩,Nat.le_refl _⟩
end
end Go.Proofs.YtjihboddejaelaaGreat
namespace Go.Proofs.YtjihboddejaelaaGreat
open Go.RowKit
variable {mf:Nat}
theorem reads_b {L:Lg} (h:Safe L) {n:Nat} (hn:n≤65536) {t:ByteArray} (hl:LiesQ L.D.l0 L.fs n t):(L.D.down=false→L.rw.readE n=0∧L.rw.readS n=t)∧(L.rw.readE n≠0→L.D.down=true):=by
 have key:L.D.down=false→L.rw.readE n=0∧L.rw.readS n=t:=fun hd=>by
  obtain ⟨e1,e2⟩:=rw_read h.ok hd n
  rw [← e1,← e2]
  have hseen:L.D.seen 0=L.D.l0:=by
   have:=seen_crash L.D.waits 0 0 L.D.l0
   rw [crashL_none [1] L.D.waits 0 0 L.D.l0 h.waits0] at this
   exact this.symm
  have r0:0≤(n:Int)∧(n:Int)≤2147483647:=by omega
  have rE:L.readE n=if lastAt L.fs n≠0 then 0 else if (n:Int)<((L.D.seen 0).length / 1024:Nat) then 0 else 7:=(if_pos r0).trans (if_neg (by rw [hd];decide))
  have rS:L.readS n=if lastAt L.fs n≠0 then ((L.fs[lastAt L.fs n-1]?).map (·.text)).getD ⟨#[]⟩ else if (n:Int)<((L.D.seen 0).length / 1024:Nat) then bsOf (partL (L.D.seen 0) (1024*(n:Int).toNat) 1024) else ⟨#[]⟩:=if_pos ⟨r0.1,r0.2,hd⟩
  rw [rE,rS,hseen]
  unfold LiesQ at hl
  by_cases hf:lastAt L.fs n≠0
  ·rw [if_pos hf] at hl
   rw [if_pos hf,if_pos hf,hl];exact ⟨rfl,rfl⟩
  ·rw [if_neg hf] at hl
   rw [if_neg hf,if_neg hf]
   have hlt:(n:Int)<(L.D.l0.length / 1024:Nat):=by have:=hl.2;omega
   rw [if_pos hlt,if_pos hlt,Int.toNat_natCast]
   exact ⟨rfl,hl.1⟩
 refine ⟨key,fun hE=>?_⟩
 cases hd:L.D.down
 ·exact absurd (key hd).1 hE
 ·rfl
structure PIn (mf:Nat) (P:Pl) (B N:Bk):Prop where
 ok:P.ok
 log:InvB mf P.L B
 pages:P.pages=N.q
 ring:∀ f∈P.ring,f.s=N.K f.n∧(f.dirty=true→f.n∈P.turned)
 lies:∀ n,n<N.q→(∀ f∈P.ring,f.n=n→f.dirty=false)→LiesQ P.L.D.l0 P.L.fs n (N.K n)
 same:∀ n,n<N.q→n∉P.turned→n<B.q∧N.K n=B.K n
 le:B.q≤N.q
section
variable {P:Pl} {B N:Bk}
theorem PIn.up (h:PIn mf P B N):∀ f∈P.ring,f.n<N.q∧f.n≤65536:=fun f hf=>by
 have h1:=h.ok.pages f hf
 have h2:=h.ok.few
 have h3:=h.pages
 omega
theorem spill_in (h:PIn mf P B N) (hw:wt P≤60000) {f:Pf} (hf:f∈P.ring):PIn mf (P.spill f).1 B N∧wt (P.spill f).1≤wt P∧((P.spill f).2≠0→(P.spill f).2=2∧(P.spill f).1.L.D.down=true):=by
 have hok:=spill_ok h.ok f
 obtain ⟨r2,r3⟩:=h.ring f hf
 obtain ⟨u1,u2⟩:=h.up f hf
 have hdd:=dirty_drop h.ok.names hf
 have hlen:P.L.fs.length≤60000:=by unfold wt at hw;omega
 cases hd:f.dirty
 ·have e:P.spill f=({ P with ring:=dropN f.n P.ring },0):=by unfold Pl.spill;rw [hd];rfl
  rw [e] at hok ⊢
  rw [hd] at hdd
  refine ⟨⟨hok,h.log,h.pages,fun g hg=>h.ring g ((dropN_sub _ _).subset hg),fun n hn hc=>h.lies n hn fun g hg hgn=>?_,h.same,h.le⟩, ?_,fun h2=>absurd rfl h2⟩
  ·by_cases hx:g.n=f.n
   ·rw [same_frame h.ok.names hg hf hx];exact hd
   ·exact hc g (mem_dropN hg hx) hgn
  ·show P.L.fs.length+((dropN f.n P.ring).filter (·.dirty)).length≤P.L.fs.length+(P.ring.filter (·.dirty)).length
   rw [hdd];omega
 ·obtain ⟨a1,al,a2,a3,a4,a5⟩:=append_b h.log hlen u2 (h.ok.size f hf)
  rw [hd] at hdd
  by_cases hE:P.L.appendE f.n f.s=0
  ·obtain ⟨b1,b2,b3⟩:=a4 hE
   have e:P.spill f=({ P with L:=P.L.append f.n f.s,spills:=wrap64 (P.spills+1),ring:=dropN f.n P.ring },0):=by unfold Pl.spill;rw [hd,if_pos rfl,if_pos hE]
   rw [e] at hok ⊢
   refine ⟨⟨hok,a1,h.pages,fun g hg=>h.ring g ((dropN_sub _ _).subset hg),fun n hn hc=>?_,h.same,h.le⟩, ?_,fun h2=>absurd rfl h2⟩
   ·show LiesQ (P.L.append f.n f.s).D.l0 (P.L.append f.n f.s).fs n _
    rw [b1,al]
    by_cases hnf:n=f.n
    ·subst hnf;rw [← r2];exact liesQ_snoc
    ·exact liesQ_other (h.lies n hn fun g hg hgn=>hc g (mem_dropN hg (by omega)) hgn) hnf
   ·show (P.L.append f.n f.s).fs.length+((dropN f.n P.ring).filter (·.dirty)).length≤P.L.fs.length+(P.ring.filter (·.dirty)).length
    rw [b1,hdd,List.length_append,List.length_singleton,if_pos rfl];omega
  ·obtain ⟨b0,b1,b2⟩:=a5 hE
   have e:P.spill f=({ P with L:=P.L.append f.n f.s },P.L.appendE f.n f.s):=by unfold Pl.spill;rw [hd,if_pos rfl,if_neg hE]
   rw [e] at hok ⊢
   refine ⟨⟨hok,a1,h.pages,h.ring,fun n hn hc=>?_,h.same,h.le⟩, ?_,fun _=>⟨b0,b2⟩⟩
   ·show LiesQ (P.L.append f.n f.s).D.l0 (P.L.append f.n f.s).fs n _
    rw [b1,al];exact h.lies n hn hc
   ·show (P.L.append f.n f.s).fs.length+_≤_
    rw [b1];exact Nat.le_refl _
theorem room_in (h:PIn mf P B N) (hw:wt P≤60000):PIn mf P.room.1 B N∧wt P.room.1≤wt P∧(P.room.2≠0→P.room.2=6∨(P.room.2=2∧P.room.1.L.D.down=true)):=by
 unfold Pl.room
 split
 ·exact ⟨h,Nat.le_refl _,fun h2=>absurd rfl h2⟩
 ·split
  ·exact ⟨h,Nat.le_refl _,fun _=>.inl rfl⟩
  ·rename_i f hi
   obtain ⟨a,b,c⟩:=spill_in h hw (List.mem_of_find?_eq_some hi)
   exact ⟨a,b,fun h2=>.inr (c h2)⟩
def Err (E:Int) (P:Pl):Prop:=E≠0→E≠2∨P.L.D.down=true
theorem get_in (h:PIn mf P B N) (hw:wt P≤60000) (x:Int):PIn mf (P.get x).1 B N∧wt (P.get x).1≤wt P∧Err (P.get x).2 (P.get x).1:=by
 have hok:=get_ok h.ok x
 have hp:=h.pages
 have hf:=h.ok.few
 unfold Pl.get at hok ⊢
 by_cases hx:0≤x∧x<(P.pages:Int)
 ·rw [if_pos hx] at hok ⊢
  split
  ·rename_i f hfd
   rw [hfd] at hok
   dsimp only at hok
   have hm:f∈P.ring:=List.mem_of_find?_eq_some hfd
   have hpm:=drop_perm h.ok.names hm
   refine ⟨⟨hok,h.log,h.pages,fun g hg=>h.ring g (hpm.mem_iff.1 hg),fun n hn hc=>h.lies n hn (fun g hg=>hc g (hpm.mem_iff.2 hg)),h.same,h.le⟩, ?_,fun h2=>absurd rfl h2⟩
   show P.L.fs.length+((dropN f.n P.ring++[f]).filter (·.dirty)).length≤P.L.fs.length+(P.ring.filter (·.dirty)).length
   rw [dirty_perm hpm];exact Nat.le_refl _
  ·rename_i hfd
   rw [hfd] at hok
   dsimp only at hok
   obtain ⟨r1,r2,r3⟩:=room_in h hw
   obtain ⟨s1,s2,s3,s4,s5⟩:=room_same (P:=P)
   obtain ⟨y,rfl⟩:∃ y:Nat,x=y:=⟨x.toNat,by omega⟩
   by_cases hr:P.room.2=0
   ·rw [if_pos hr] at hok ⊢
    have hno:∀ f∈P.room.1.ring,f.n≠y:=fun f hf2=>by have:=find_none hfd f (s5 f hf2);omega
    generalize P.room.1=R at *
    have hl:=r1.lies y (by omega) (fun f hf2 hfx=>absurd hfx (hno f hf2))
    obtain ⟨q1,q2⟩:=reads_b r1.log.safe (by omega) hl
    unfold Pl.fetch at hok ⊢
    rw [Int.toNat_natCast] at hok ⊢
    by_cases hE:R.L.rw.readE y=0
    ·rw [if_pos hE] at hok ⊢
     obtain ⟨_,q3⟩:=q1 (rw_down hE)
     refine ⟨⟨hok,r1.log,r1.pages,fun f hf2=>?_,fun n hn hc=>r1.lies n hn (fun f hf2=>hc f (List.mem_append_left _ hf2)),r1.same,r1.le⟩, ?_,fun h2=>absurd rfl h2⟩
     ·rcases List.mem_append.1 hf2 with hf2 | hf2
      ·exact r1.ring f hf2
      ·rw [List.mem_singleton.1 hf2]
       exact ⟨q3,fun h2=>by cases h2⟩
     ·show R.L.fs.length+((R.ring++[_]).filter (fun f:Pf=>f.dirty)).length≤_
      rw [List.filter_append,List.length_append]
      refine Nat.le_trans ?_ r2
      unfold wt
      simp [List.filter_cons]
    ·rw [if_neg hE] at hok ⊢
     exact ⟨r1,r2,fun _=>.inr (q2 hE)⟩
   ·rw [if_neg hr] at hok ⊢
    exact ⟨r1,r2,fun _=>(r3 hr).imp (fun h6=>by rw [h6];decide) (fun h2=>h2.2)⟩
 ·rw [if_neg hx]
  exact ⟨h,Nat.le_refl _,fun _=>.inl (by show (7:Int)≠2;decide)⟩
theorem get_textI (h:PIn mf P B N) (hw:wt P≤60000) {x:Int} (hE:(P.get x).2=0):0≤x∧x<(N.q:Int)∧(P.get x).1.lastF.s=N.K x.toNat:=by
 obtain ⟨g1,_,_⟩:=get_in h hw x
 obtain ⟨F0,f,hF,hn,h0,h1⟩:=get_last h.ok hE
 have hp:=h.pages
 refine ⟨h0,by omega, ?_⟩
 rw [(lastF_snoc hF).1]
 have:=(g1.ring f (by rw [hF];simp)).1
 rw [this]
 congr 1
 omega
theorem put_in (h:PIn mf P B N) (hw:wt P≤60000) (x:Int) {s:ByteArray} (hs:s.size=1024) :
 ((P.put x s).2=0→0≤x∧x<(N.q:Int)∧PIn mf (P.put x s).1 B (N.put x.toNat s))∧((P.put x s).2≠0→PIn mf (P.put x s).1 B N)∧wt (P.put x s).1≤wt P+1∧(P.put x s).1.free=P.free∧Err (P.put x s).2 (P.put x s).1:=by
 obtain ⟨g1,g2,g3⟩:=get_in h hw x
 obtain ⟨s1,s2,s3,s4⟩:=get_same (P:=P) x
 have hok:=put_ok h.ok x hs
 by_cases hE:(P.get x).2=0
 ·obtain ⟨F0,f,hF,hn,i0,i1⟩:=get_last h.ok hE
  have e:=put_eq (s:=s) hE hF hn
  have hp:=h.pages
  obtain ⟨y,rfl⟩:∃ y:Nat,x=y:=⟨x.toNat,by omega⟩
  have hfn:f.n=y:=by omega
  rw [e] at hok ⊢
  rw [Int.toNat_natCast]
  generalize (P.get y).1=R at *
  have nm:=g1.ok.names
  rw [hF] at nm
  obtain ⟨n1,_,_⟩:=names_split (F2:=[]) nm
  refine ⟨fun _=>⟨i0,by omega,⟨hok,g1.log,g1.pages,fun g hg=>?_,fun n hn2 hc=>?_,fun n hn2 hnt=>?_,g1.le⟩⟩,fun h2=>absurd rfl h2, ?_,s3,fun h2=>absurd rfl h2⟩
  ·show g.s=(if g.n=y then s else N.K g.n)∧(g.dirty=true→g.n∈insN f.n R.turned)
   have hin:∀ z,z∈R.turned→z∈insN f.n R.turned:=fun z hz=>by
    unfold insN;split
    ·exact hz
    ·exact List.mem_cons_of_mem _ hz
   rcases List.mem_append.1 hg with hg | hg
   ·have h1:=g1.ring g (by rw [hF];exact List.mem_append_left _ hg)
    rw [if_neg (by have:=n1 g hg;omega)]
    exact ⟨h1.1,fun h2=>hin _ (h1.2 h2)⟩
   ·rw [List.mem_singleton.1 hg]
    refine ⟨(if_pos hfn).symm,fun _=>?_⟩
    show f.n∈insN f.n R.turned
    unfold insN;split
    ·assumption
    ·exact List.mem_cons_self ..
  ·show LiesQ R.L.D.l0 R.L.fs n (if n=y then s else N.K n)
   have hnx:n≠y:=fun e2=>by
    have:(true:Bool)=false:=hc { f with s:=s,dirty:=true } (List.mem_append_right _ (List.mem_singleton.2 rfl)) (by show f.n=n;omega)
    cases this
   rw [if_neg hnx]
   refine g1.lies n hn2 fun g hg hgn=>?_
   rw [hF] at hg
   rcases List.mem_append.1 hg with hg | hg
   ·exact hc g (List.mem_append_left _ hg) hgn
   ·rw [List.mem_singleton.1 hg] at hgn;omega
  ·show n<B.q∧(if n=y then s else N.K n)=B.K n
   have hnt2:n∉insN f.n R.turned:=hnt
   have hnx:n≠y:=fun e2=>hnt2 (by
    rw [e2,← hfn];unfold insN;split
    ·assumption
    ·exact List.mem_cons_self ..)
   rw [if_neg hnx]
   refine g1.same n hn2 fun h2=>hnt2 ?_
   unfold insN;split
   ·exact h2
   ·exact List.mem_cons_of_mem _ h2
  ·show R.L.fs.length+((F0++[_]).filter (fun f:Pf=>f.dirty)).length≤_
   refine Nat.le_trans ?_ (Nat.succ_le_succ g2)
   unfold wt
   rw [hF,List.filter_append,List.filter_append,List.length_append,List.length_append]
   simp [List.filter_cons]
   omega
 ·have e:P.put x s=P.get x:=if_neg hE
  rw [e] at hok ⊢
  exact ⟨fun h2=>absurd h2 hE,fun _=>g1,Nat.le_succ_of_le g2,s3,g3⟩
end
end Go.Proofs.YtjihboddejaelaaGreat
namespace Go.Proofs.YtjihboddejaelaaGreat
open Go.RowKit
variable {mf:Nat}
structure Root (N:Bk) (free:Nat):Prop where
 pos:1≤N.q
 text:N.K 0=sealS 4 free []
 le:free≤2147483647
theorem open_root {l:Nat} (hl:l≤2147483647):openP (sealS 4 l [])=some (4,l,[]):=by
 have h:1≤4∧4≤5∧l≤2147483647∧usedN []≤1012:=⟨by omega,by omega,hl,by decide⟩
 exact openP_valid.2 ⟨h.1,h.2.1,h.2.2.1,h.2.2.2,(sealS_valid h).symm⟩
theorem open_link {s:ByteArray} {p:Pg} (h:openP s=some p):p.2.1≤2147483647:=(openP_valid.1 h).2.2.1
theorem root_len {l:Nat} (hl:l≤2147483647):(sealS 4 l []).size=1024:=seal_size (K:=4) (by omega) (by omega) hl (by decide)
theorem free_lenR {l:Nat} (hl:l≤2147483647):(sealS 3 l []).size=1024:=seal_size (K:=3) (by omega) (by omega) hl (by decide)
theorem Root.put {N:Bk} {free:Nat} (h:Root N free) {x:Nat} (hx:x≠0) (s:ByteArray):Root (N.put x s) free :=
 ⟨h.pos,by show (if 0=x then s else N.K 0)=_;rw [if_neg (Ne.symm hx)];exact h.text,h.le⟩
theorem root_put {N:Bk} {n:Nat} (h:1≤N.q) (hn:n≤2147483647):Root (N.put 0 (sealS 4 n [])) n:=⟨h,rfl,hn⟩
def Then (mf:Nat) (P:Pl) (B:Bk) (W:Nat):Prop:=∃ N,PIn mf P B N∧Root N P.free∧wt P≤W
section
variable {P:Pl} {B N:Bk} {W:Nat}
theorem PIn.withFree (h:PIn mf P B N) {n:Nat} (hn:n≤2147483647):PIn mf { P with free:=n } B N :=
 ⟨⟨h.ok.log,h.ok.names,h.ok.pages,h.ok.size,h.ok.most,h.ok.full,h.ok.few,hn,h.ok.turnd,h.ok.turns⟩,h.log,h.pages,h.ring,h.lies,h.same,h.le⟩
theorem get_then (h:PIn mf P B N) (r:Root N P.free) (hw:wt P≤60000) (x:Int):PIn mf (P.get x).1 B N∧Root N (P.get x).1.free∧wt (P.get x).1≤wt P:=by
 obtain ⟨g1,g2,_⟩:=get_in h hw x
 exact ⟨g1,by rw [(get_same x).2.2.1];exact r,g2⟩
theorem put_then (h:PIn mf P B N) (r:Root N P.free) (hw:wt P≤60000) {x:Int} (hx:x≠0) {s:ByteArray} (hs:s.size=1024):∃ N',PIn mf (P.put x s).1 B N'∧Root N' (P.put x s).1.free∧wt (P.put x s).1≤wt P+1∧N'.q=N.q:=by
 obtain ⟨p1,p2,p3,p4,p5⟩:=put_in h hw x hs
 by_cases hE:(P.put x s).2=0
 ·obtain ⟨a,b,c⟩:=p1 hE
  exact ⟨_,c,by rw [p4];exact r.put (by omega) s,p3,rfl⟩
 ·exact ⟨N,p2 hE,by rw [p4];exact r,p3,rfl⟩
theorem write_then (h:PIn mf P B N) (r:Root N P.free) (hw:wt P≤60000) (x:Int) (s:ByteArray):Then mf (P.write x s).1 B (wt P+1):=by
 unfold Pl.write
 by_cases hx:x=0∨s.size≠1024
 ·rw [if_pos hx];exact ⟨N,h,r,Nat.le_succ _⟩
 ·rw [if_neg hx]
  obtain ⟨N',a,b,c,_⟩:=put_then h r hw (x:=x) (fun e=>hx (.inl e)) (s:=s) (Classical.byContradiction fun e=>hx (.inr e))
  exact ⟨N',a,b,c⟩
theorem setFree_then (h:PIn mf P B N) (r:Root N P.free) (hw:wt P+1≤60000) {n:Nat} (hn:n≤2147483647):∃ N',PIn mf (P.setFree n).1 B N'∧Root N' (P.setFree n).1.free∧wt (P.setFree n).1≤wt P+1∧N'.q=N.q:=by
 obtain ⟨g1,g2,g3⟩:=get_then h r (by omega) 0
 by_cases hE:(P.get 0).2=0
 ·have ht:=(get_textI h (by omega) hE).2.2
  rw [show (0:Int).toNat=0 from rfl,r.text] at ht
  have hop:openP (P.get 0).1.lastF.s=some (4,P.free,[]):=by rw [ht];exact open_root r.le
  obtain ⟨p1,p2,p3,p4,p5⟩:=put_in g1 (by omega) 0 (s:=sealS 4 n []) (root_len hn)
  have e:P.setFree n=if ((P.get 0).1.put 0 (sealS 4 n [])).2=0 then ({ ((P.get 0).1.put 0 (sealS 4 n [])).1 with free:=n },0) else (P.get 0).1.put 0 (sealS 4 n []):=by
   unfold Pl.setFree
   rw [if_pos hE,hop]
  rw [e]
  by_cases hE2:((P.get 0).1.put 0 (sealS 4 n [])).2=0
  ·rw [if_pos hE2]
   obtain ⟨_,_,c⟩:=p1 hE2
   exact ⟨_,c.withFree hn,root_put r.pos hn,Nat.le_trans p3 (Nat.succ_le_succ g3),rfl⟩
  ·rw [if_neg hE2]
   exact ⟨N,p2 hE2,by rw [p4];exact g2,Nat.le_trans p3 (Nat.succ_le_succ g3),rfl⟩
 ·have e:P.setFree n=P.get 0:=if_neg hE
  rw [e]
  exact ⟨N,g1,g2,Nat.le_succ_of_le g3,rfl⟩
theorem grow_then (h:PIn mf P B N) (r:Root N P.free) (hw:wt P≤60000) (hp:¬ 67108864<(P.pages+1)*1024):Then mf P.grow.1 B (wt P+1):=by
 have hok:=grow_ok h.ok hp
 obtain ⟨r1,r2,r3⟩:=room_in h hw
 obtain ⟨s1,s2,s3,s4,s5⟩:=room_same (P:=P)
 have rp:=r.pos
 unfold Pl.grow at hok ⊢
 by_cases hr:P.room.2=0
 ·rw [if_pos hr] at hok ⊢
  generalize P.room.1=R at *
  have hpg:=r1.pages
  rw [hpg] at hok ⊢
  refine ⟨⟨N.q+1,fun m=>if m=N.q then blankS else N.K m⟩,⟨hok,r1.log,rfl,fun g hg=>?_,fun n hn hc=>?_,fun n hn hnt=>?_,Nat.le_succ_of_le r1.le⟩,⟨Nat.le_succ_of_le rp, ?_, ?_⟩, ?_⟩
  ·show g.s=(if g.n=N.q then blankS else N.K g.n)∧(g.dirty=true→g.n∈insN N.q R.turned)
   rcases List.mem_append.1 hg with hg | hg
   ·have h1:=r1.ring g hg
    have h2:=r1.up g hg
    rw [if_neg (by omega)]
    refine ⟨h1.1,fun h3=>?_⟩
    unfold insN;split
    ·exact h1.2 h3
    ·exact List.mem_cons_of_mem _ (h1.2 h3)
   ·rw [List.mem_singleton.1 hg]
    refine ⟨(if_pos rfl).symm,fun _=>?_⟩
    show N.q∈insN N.q R.turned
    unfold insN;split
    ·assumption
    ·exact List.mem_cons_self ..
  ·have hn2:n<N.q+1:=hn
   show LiesQ R.L.D.l0 R.L.fs n (if n=N.q then blankS else N.K n)
   have hnq:n≠N.q:=fun e=>by
    have:(true:Bool)=false:=hc ⟨N.q,blankS,0,true⟩ (List.mem_append_right _ (List.mem_singleton.2 rfl)) e.symm
    cases this
   rw [if_neg hnq]
   exact r1.lies n (by omega) fun g hg=>hc g (List.mem_append_left _ hg)
  ·have hn2:n<N.q+1:=hn
   have hnt2:n∉insN N.q R.turned:=hnt
   show n<B.q∧(if n=N.q then blankS else N.K n)=B.K n
   have hnq:n≠N.q:=fun e=>hnt2 (by
    rw [e];unfold insN;split
    ·assumption
    ·exact List.mem_cons_self ..)
   rw [if_neg hnq]
   refine r1.same n (by omega) fun h2=>hnt2 ?_
   unfold insN;split
   ·exact h2
   ·exact List.mem_cons_of_mem _ h2
  ·show (if 0=N.q then blankS else N.K 0)=sealS 4 R.free []
   rw [if_neg (by omega),s3];exact r.text
  ·show R.free≤_
   rw [s3];exact r.le
  ·show R.L.fs.length+((R.ring++[_]).filter (fun f:Pf=>f.dirty)).length≤_
   refine Nat.le_trans ?_ (Nat.succ_le_succ r2)
   unfold wt
   rw [List.filter_append,List.length_append]
   simp [List.filter_cons]
   omega
 ·rw [if_neg hr]
  exact ⟨N,r1,by rw [s3];exact r,Nat.le_succ_of_le r2⟩
theorem alloc_then (h:PIn mf P B N) (r:Root N P.free) (hw:wt P+2≤60000):Then mf P.alloc.1 B (wt P+2):=by
 unfold Pl.alloc
 by_cases h0:P.free=0
 ·rw [if_pos h0]
  by_cases hp:67108864<(P.pages+1)*1024
  ·rw [if_pos hp];exact ⟨N,h,r,Nat.le_add_right _ _⟩
  ·rw [if_neg hp]
   obtain ⟨N',a,b,c⟩:=grow_then h r (by omega) hp
   exact ⟨N',a,b,by omega⟩
 ·rw [if_neg h0]
  unfold Pl.reuse
  obtain ⟨g1,g2,g3⟩:=get_then h r (by omega) P.free
  by_cases hE:(P.get P.free).2=0
  ·rw [if_pos hE]
   cases hop:openP (P.get P.free).1.lastF.s with
   | none=>exact ⟨N,g1,g2,by show wt (P.get P.free).1≤_;omega⟩
   | some pg =>
     dsimp only
     obtain ⟨N',a,b,c,d⟩:=setFree_then g1 g2 (by omega) (open_link hop)
     by_cases hE2:((P.get P.free).1.setFree pg.2.1).2=0
     ·rw [if_pos hE2]
      obtain ⟨N2,a2,b2,c2,_⟩:=put_then a b (by omega) (x:=P.free) (by omega) (s:=blankS) (free_lenR (l:=0) (by omega))
      exact ⟨N2,a2,b2,by omega⟩
     ·rw [if_neg hE2];exact ⟨N',a,b,by omega⟩
  ·rw [if_neg hE];exact ⟨N,g1,g2,by omega⟩
theorem freeP_then (h:PIn mf P B N) (r:Root N P.free) (hw:wt P+2≤60000) (x:Int):Then mf (P.freeP x).1 B (wt P+2):=by
 unfold Pl.freeP
 by_cases hx:x=0
 ·rw [if_pos hx];exact ⟨N,h,r,Nat.le_add_right _ _⟩
 ·rw [if_neg hx]
  obtain ⟨N',a,b,c,d⟩:=put_then h r (by omega) hx (s:=sealS 3 P.free []) (free_lenR r.le)
  by_cases hE:(P.put x (sealS 3 P.free [])).2=0
  ·rw [if_pos hE]
   obtain ⟨F0,f,hF,hn,i0,i1⟩:=get_last h.ok (x:=x) (by
    unfold Pl.put at hE
    by_cases h4:(P.get x).2=0
    ·exact h4
    ·rw [if_neg h4] at hE;exact hE)
   have hf:=h.ok.few
   obtain ⟨N2,a2,b2,c2,_⟩:=setFree_then a b (by omega) (n:=x.toNat) (by omega)
   exact ⟨N2,a2,b2,by omega⟩
  ·rw [if_neg hE];exact ⟨N',a,b,by omega⟩
theorem PIn.textN (h:PIn mf P B N) {n:Nat} (hn:n∈P.ring.map (·.n)):textN n P.ring=N.K n∧(N.K n).size=1024∧n<N.q∧n≤65536:=by
 obtain ⟨f,hf,rfl⟩:=List.mem_map.1 hn
 have h1:=h.ring f hf
 have h2:=h.up f hf
 have h3:=h.ok.size f hf
 obtain ⟨F1,F2,e⟩:=List.append_of_mem hf
 have nm:=h.ok.names
 rw [e] at nm
 refine ⟨?_,by rw [← h1.1];exact h3,h2.1,h2.2⟩
 rw [e,text_mid nm];exact h1.1
theorem flush_then:∀ (ns:List Nat) (P:Pl),ns≠[]→PIn mf P B N→(∀ f∈P.ring,f.dirty=true→f.n∈ns)→(∀ n∈ns,n∈P.ring.map (·.n))→P.L.fs.length+ns.length≤min 60000 mf→1≤N.q →
 ((Pl.flush ns P).2=0→PIn mf (Pl.flush ns P).1 N N∧(∀ f∈(Pl.flush ns P).1.ring,f.dirty=false)∧(Pl.flush ns P).1.L.fs.length=P.L.fs.length+ns.length∧(Pl.flush ns P).1.L.kept=(Pl.flush ns P).1.L.fs.length∧(Pl.flush ns P).1.free=P.free∧(Pl.flush ns P).1.L.D.down=false)∧((Pl.flush ns P).2≠0→(Pl.flush ns P).2=2∧LostB mf (Pl.flush ns P).1.L.D B N)
 | [],P,h,_,_,_,_,_=>absurd rfl h
 | [n],P,_,h,hd,hm,hw,hq=>by
   obtain ⟨t1,t2,t3,t4⟩:=h.textN (hm n (List.mem_singleton.2 rfl))
   have hC:HoldsB mf P.L.D.l0 N (P.L.fs++[⟨n,N.K n⟩]) P.pages:=⟨⟨h.pages,by simp only [List.length_cons,List.length_nil,List.length_append] at hw ⊢;omega⟩,fun m hm2=>by
    by_cases e:m=n
    ·rw [e];exact liesQ_snoc
    ·refine liesQ_other (h.lies m hm2 fun f hf hfm=>?_) e
     cases hdf:f.dirty
     ·rfl
     ·have:=List.mem_singleton.1 (hd f hf hdf)
      omega⟩
   have hps:=h.pages
   have hfew:=h.ok.few
   obtain ⟨c1,c2⟩:=commit_b h.log (by simp at hw;omega) t4 (p:=P.pages) ⟨by omega,hfew⟩ t2 hC
   unfold Pl.flush
   rw [t1]
   by_cases hE:P.L.commitE n (N.K n) P.pages=0
   ·rw [if_pos hE]
    obtain ⟨a1,a0,a2,ak,a3⟩:=c1 hE
    have hcl:=h.ok.clean (L':=P.L.commit n (N.K n) P.pages) (commit_ok h.ok.log _ _ _) n
    refine ⟨fun _=>⟨⟨hcl,a1,h.pages,fun g hg=>?_,fun m hm2 hc=>?_,fun m hm2 _=>⟨hm2,rfl⟩,Nat.le_refl _⟩,fun g hg=>?_, ?_, ?_,rfl,a3⟩,fun h2=>absurd rfl h2⟩
    ·obtain ⟨f,hf,e1,e2,e3,e4⟩:=clean_mem hg
     have h1:=h.ring f hf
     exact ⟨by rw [e1,e2];exact h1.1,fun h2=>by rw [e1];exact h1.2 (e4 h2).1⟩
    ·show LiesQ (P.L.commit n (N.K n) P.pages).D.l0 (P.L.commit n (N.K n) P.pages).fs m _
     rw [a2,a0];exact hC.2 m hm2
    ·obtain ⟨f,hf,e1,e2,e3,e4⟩:=clean_mem hg
     cases hdg:g.dirty
     ·rfl
     ·exact absurd (List.mem_singleton.1 (hd f hf (e4 hdg).1)) (e4 hdg).2
    ·show (P.L.commit n (N.K n) P.pages).fs.length=_
     rw [a2];simp
    ·show (P.L.commit n (N.K n) P.pages).kept=(P.L.commit n (N.K n) P.pages).fs.length
     rw [ak,a2];simp
   ·rw [if_neg hE]
    exact ⟨fun h2=>absurd h2 hE,fun _=>c2 hE⟩
 | n :: m :: r,P,_,h,hd,hm,hw,hq=>by
   obtain ⟨t1,t2,t3,t4⟩:=h.textN (hm n (List.mem_cons_self ..))
   obtain ⟨a1,al,a2,a3,a4,a5⟩:=append_b h.log (by simp at hw;omega) t4 t2
   unfold Pl.flush
   rw [t1]
   by_cases hE:P.L.appendE n (N.K n)=0
   ·rw [if_pos hE]
    obtain ⟨b1,b2,b3⟩:=a4 hE
    have hcl:=h.ok.clean (L':=P.L.append n (N.K n)) (append_ok h.ok.log _ _) n
    have hI:PIn mf { P with L:=P.L.append n (N.K n),ring:=cleanN n P.ring } B N:=⟨hcl,a1,h.pages,fun g hg=>by
     obtain ⟨f,hf,e1,e2,e3,e4⟩:=clean_mem hg
     have h1:=h.ring f hf
     exact ⟨by rw [e1,e2];exact h1.1,fun h2=>by rw [e1];exact h1.2 (e4 h2).1⟩,fun k hk hc=>by
     show LiesQ (P.L.append n (N.K n)).D.l0 (P.L.append n (N.K n)).fs k _
     rw [b1,al]
     by_cases e:k=n
     ·rw [e];exact liesQ_snoc
     ·exact liesQ_other (h.lies k hk fun f hf hfk=>hc f (mem_clean hf (by omega)) hfk) e,h.same,h.le⟩
    have ih:=flush_then (m :: r) { P with L:=P.L.append n (N.K n),ring:=cleanN n P.ring } (by simp) hI (fun g hg hdg=>by
     obtain ⟨f,hf,e1,e2,e3,e4⟩:=clean_mem hg
     obtain ⟨f1,f2⟩:=e4 hdg
     rcases List.mem_cons.1 (hd f hf f1) with h2 | h2
     ·exact absurd h2 f2
     ·rw [e1];exact h2) (fun k hk=>by
     show k∈(cleanN n P.ring).map (·.n)
     rw [clean_names];exact hm k (List.mem_cons_of_mem _ hk)) (by
     show (P.L.append n (N.K n)).fs.length+_≤_
     rw [b1];simp at hw ⊢;omega) hq
    refine ⟨fun h2=>?_,ih.2⟩
    obtain ⟨i1,i2,i3,ik,i4,i5⟩:=ih.1 h2
    refine ⟨i1,i2,i3.trans ?_,ik,i4,i5⟩
    show (P.L.append n (N.K n)).fs.length+_=_
    rw [b1];simp;omega
   ·rw [if_neg hE]
    exact ⟨fun h2=>absurd h2 hE,fun _=>⟨(a5 hE).1,a1.lost (a5 hE).2.2 N⟩⟩
theorem PIn.noTurned {P:Pl} {N:Bk} (h:PIn mf P N N) (hd:∀ f∈P.ring,f.dirty=false):PIn mf { P with turned:=[] } N N :=
 ⟨⟨h.ok.log,h.ok.names,h.ok.pages,h.ok.size,h.ok.most,h.ok.full,h.ok.few,h.ok.link,List.nodup_nil,fun x hx=>by cases hx⟩,h.log,h.pages,fun f hf=>⟨(h.ring f hf).1,fun h2=>by rw [hd f hf] at h2;cases h2⟩,h.lies,fun n hn _=>⟨hn,rfl⟩,Nat.le_refl _⟩
theorem check3_zero {L:Lg} {D:Dk} (he:(L.check3 D).2=0):(L.check3 D).1.fs=[]:=by
 unfold Lg.check3 at he ⊢
 by_cases h1:D.cutE 0 (1024*L.pages:Nat)≠0
 ·rw [if_pos h1] at he;exact absurd he h1
 ·rw [if_neg h1] at he ⊢
  by_cases h2:(D.cutD 0 (1024*L.pages:Nat)).stops
  ·rw [if_pos h2] at he;cases he
  ·rw [if_neg h2] at he ⊢
   dsimp only at he ⊢
   by_cases h3:({ L with D:=(D.cutD 0 (1024*L.pages:Nat)).sync 0 }:Lg).tellE 0 L.pages=0
   ·rw [if_pos h3]
   ·rw [if_neg h3] at he;exact absurd he h3
theorem check_none {L:Lg} (hfull:¬ L.fs.length≠L.kept) (hk:0<L.fs.length) (he:L.checkpoint.2=0):L.checkpoint.1.fs.length≤0:=by
 unfold Lg.checkpoint at he ⊢
 have h2:¬ L.kept=0:=fun h=>hfull (by omega)
 rw [if_neg hfull,if_neg h2] at he ⊢
 by_cases h3:(L.puts L.pages 0 L.D).2≠0
 ·rw [if_pos h3] at he;exact absurd he h3
 ·rw [if_neg h3] at he ⊢
  rw [check3_zero he];exact Nat.le_refl _
theorem check_eleven {L:Lg} (ok:L.ok) (hp:L.pages≤65536) (he:L.checkpoint.2=11):L.fs.length≠L.kept:=fun hfull=>by
 unfold Lg.checkpoint at he
 rw [if_neg (fun h=>h hfull)] at he
 by_cases h2:L.kept=0
 ·rw [if_pos h2] at he;cases he
 ·rw [if_neg h2] at he
  by_cases h3:(L.puts L.pages 0 L.D).2≠0
  ·rw [if_pos h3] at he
   have:=(puts_twoQ ok L.pages 0 L.D (by omega)).resolve_left h3
   dsimp only at he
   rw [this] at he;cases he
  ·rw [if_neg h3] at he
   exact check3_no he
theorem PIn.checked {P:Pl} {N:Bk} (h:PIn mf P N N) (ht:P.turned=[]) (hd:∀ f∈P.ring,f.dirty=false) :
 ((P.L.checkpoint.2=0∨P.L.checkpoint.2=11)→PIn mf { P with L:=P.L.checkpoint.1 } N N∧wt { P with L:=P.L.checkpoint.1 }≤wt P)∧(¬ (P.L.checkpoint.2=0∨P.L.checkpoint.2=11)→P.L.checkpoint.2=2∧LostB mf P.L.checkpoint.1.D N N):=by
 obtain ⟨c1,c2⟩:=check_b h.log
 refine ⟨fun hE=>?_,c2⟩
 obtain ⟨a,b,c⟩:=c1 hE
 refine ⟨⟨⟨checkpoint_ok h.ok.log,h.ok.names,h.ok.pages,h.ok.size,h.ok.most,h.ok.full,h.ok.few,h.ok.link,h.ok.turnd,h.ok.turns⟩,a,h.pages,h.ring,fun n hn hc=>c n hn _ (h.lies n hn hc),h.same,h.le⟩, ?_⟩
 exact Nat.add_le_add_right b _
theorem dirty_none {F:List Pf} (h:dirtyN F=[]):∀ f∈F,f.dirty=false:=fun f hf=>by
 cases hd:f.dirty
 ·rfl
 ·have:=dirtyN_mem.2 ⟨f,hf,hd,rfl⟩
  rw [h] at this;cases this
theorem flushed_then (h:PIn mf P B N) (hw:wt P≤50000) (hm2:wt P+1≤mf) (hq:1≤N.q) :
 (P.flushed.2=0→PIn mf P.flushed.1 N N∧(∀ f∈P.flushed.1.ring,f.dirty=false)∧P.flushed.1.L.fs.length≤wt P+1∧P.flushed.1.L.kept=P.flushed.1.L.fs.length∧P.flushed.1.free=P.free∧P.flushed.1.L.D.down=false) ∧
 (P.flushed.2≠0→(PIn mf P.flushed.1 B N∧wt P.flushed.1≤wt P∧P.flushed.1.free=P.free∧Err P.flushed.2 P.flushed.1)∨(P.flushed.2=2∧LostB mf P.flushed.1.L.D B N)):=by
 unfold Pl.flushed
 by_cases h1:dirtyN P.ring=[]
 ·rw [if_pos h1]
  have hnd:=dirty_none h1
  obtain ⟨g1,g2,g3⟩:=get_in h (by omega) 0
  obtain ⟨s1,s2,s3,s4⟩:=get_same (P:=P) 0
  by_cases hE:(P.get 0).2=0
  ·rw [if_pos hE]
   obtain ⟨F0,f,hF,hn,_,_⟩:=get_last h.ok hE
   obtain ⟨i1,i2⟩:=flush_then [0] (P.get 0).1 (by simp) g1 (fun f hf hd=>by have:=hnd f (get_dirty 0 f hf hd);rw [this] at hd;cases hd) (fun n hn2=>by
    rw [List.mem_singleton.1 hn2,hF]
    exact List.mem_map.2 ⟨f,List.mem_append_right _ (List.mem_singleton.2 rfl),by omega⟩) (by unfold wt at g2 hw hm2;simp;omega) hq
   refine ⟨fun h2=>?_,fun h2=>.inr (i2 h2)⟩
   obtain ⟨j1,j2,j3,jk,j4,j5⟩:=i1 h2
   refine ⟨j1,j2, ?_,jk,j4.trans s3,j5⟩
   rw [j3]
   unfold wt at g2 ⊢
   simp;omega
  ·rw [if_neg hE]
   exact ⟨fun h2=>absurd h2 hE,fun _=>.inl ⟨g1,g2,s3,g3⟩⟩
 ·rw [if_neg h1]
  have hl:(dirtyN P.ring).length=(P.ring.filter (·.dirty)).length:=by unfold dirtyN;rw [List.length_mergeSort,List.length_map]
  obtain ⟨i1,i2⟩:=flush_then (dirtyN P.ring) P h1 h (fun f hf hd=>dirtyN_mem.2 ⟨f,hf,hd,rfl⟩) (fun n hn=>by
   obtain ⟨f,hf,_,e⟩:=dirtyN_mem.1 hn
   exact List.mem_map.2 ⟨f,hf,e⟩) (by rw [hl];unfold wt at hw hm2;omega) hq
  refine ⟨fun h2=>?_,fun h2=>.inr (i2 h2)⟩
  obtain ⟨j1,j2,j3,jk,j4,j5⟩:=i1 h2
  refine ⟨j1,j2, ?_,jk,j4,j5⟩
  rw [j3,hl];unfold wt;omega
theorem commit_then (h:PIn mf P B N) (r:Root N P.free) (hw:wt P≤50000) (hm2:wt P+1≤mf) :
 (P.commit.2=0→PIn mf P.commit.1 N N∧Root N P.commit.1.free∧(wt P.commit.1≤wt P+1)∧(P.turned≠[]→wt P.commit.1≤1000)) ∧
 (P.commit.2≠0→(PIn mf P.commit.1 B N∧Root N P.commit.1.free∧wt P.commit.1≤wt P∧Err P.commit.2 P.commit.1)∨(P.commit.2=2∧LostB mf P.commit.1.L.D B N)∨(P.commit.2=2∧LostB mf P.commit.1.L.D N N)):=by
 rw [commit_flushed]
 by_cases h1:P.turned=[]
 ·rw [if_pos h1]
  refine ⟨fun _=>⟨?_,r,Nat.le_succ _,fun h2=>absurd h1 h2⟩,fun h2=>absurd rfl h2⟩
  have hs:∀ n,n<N.q→n<B.q∧N.K n=B.K n:=fun n hn=>h.same n hn (by rw [h1];simp)
  have he:B.q=N.q:=Nat.le_antisymm h.le (Nat.le_of_not_lt fun h2=>by have:=(hs B.q h2).1;omega)
  exact ⟨h.ok,⟨h.log.safe,⟨⟨h.log.kept.1.1.trans he,h.log.kept.1.2⟩,fun n hn=>by rw [(hs n hn).2];exact h.log.kept.2 n (by omega)⟩,by have:=h.log.few;omega⟩,h.pages,h.ring,h.lies,fun n hn _=>⟨hn,rfl⟩,Nat.le_refl _⟩
 ·rw [if_neg h1]
  obtain ⟨i1,i2⟩:=flushed_then h (by omega) hm2 r.pos
  generalize P.flushed=R at *
  unfold Pl.told
  by_cases hE:R.2=0
  ·rw [if_pos hE]
   obtain ⟨j1,j2,j3,jk,j4,j5⟩:=i1 hE
   have jn:=j1.noTurned j2
   have wr:wt { R.1 with turned:=[] }=R.1.L.fs.length:=by
    show R.1.L.fs.length+(R.1.ring.filter (·.dirty)).length=_
    rw [no_dirty j2];rfl
   by_cases hk:1000≤R.1.L.fs.length
   ·rw [if_pos hk]
    obtain ⟨c1,c2⟩:=jn.checked rfl j2
    have hfull:¬ R.1.L.fs.length≠R.1.L.kept:=fun h2=>h2 jk.symm
    refine ⟨fun h2=>?_,fun h2=>?_⟩
    ·obtain ⟨a,b⟩:=c1 (.inl h2)
     have hz:R.1.L.checkpoint.1.fs.length≤0:=check_none hfull (by omega) h2
     refine ⟨a,by show Root N R.1.free;rw [j4];exact r, ?_,fun _=>?_⟩
     ·exact Nat.le_trans b (by rw [wr];exact j3)
     ·show R.1.L.checkpoint.1.fs.length+(R.1.ring.filter (·.dirty)).length≤_
      rw [no_dirty j2]
      show R.1.L.checkpoint.1.fs.length+0≤_
      omega
    ·have h11:R.1.L.checkpoint.2≠11:=fun h3=>hfull (check_eleven j1.log.safe.ok (by have:=j1.log.kept.1.1;have:=j1.log.few;omega) h3)
     exact .inr (.inr (c2 (fun h3=>h3.elim h2 h11)))
   ·rw [if_neg hk]
    refine ⟨fun _=>⟨jn,by show Root N R.1.free;rw [j4];exact r,by rw [wr];exact j3,fun _=>by rw [wr];omega⟩,fun h2=>absurd rfl h2⟩
  ·rw [if_neg hE]
   refine ⟨fun h2=>absurd h2 hE,fun _=>?_⟩
   rcases i2 hE with ⟨a,b,c,d⟩ | h2
   ·exact .inl ⟨a,by rw [c];exact r,b,d⟩
   ·exact .inr (.inl h2)
theorem rolled_then (h:PIn mf P B N):PIn mf P.rolled B B∧wt P.rolled≤wt P:=by
 have hk:=h.log.kept.1.1
 have hle:=h.le
 have hps:=h.pages
 have hfew:=h.ok.few
 have hfr:∀ f∈P.rolled.ring,f∈P.ring∧f.n∉P.turned:=fun f hf=>by
  have h1:=List.mem_filter.1 hf
  exact ⟨h1.1,by simpa using h1.2⟩
 have hbk:∀ f∈P.rolled.ring,f.n<B.q∧N.K f.n=B.K f.n:=fun f hf=>h.same f.n (h.up f (hfr f hf).1).1 (hfr f hf).2
 have hcl:∀ f∈P.rolled.ring,f.dirty=false:=fun f hf=>by
  cases hd:f.dirty
  ·rfl
  ·exact absurd ((h.ring f (hfr f hf).1).2 hd) (hfr f hf).2
 have hsub:P.rolled.ring.Sublist P.ring:=List.filter_sublist
 refine ⟨⟨⟨back_ok h.ok.log,(hsub.map _).nodup h.ok.names,fun f hf=>?_,fun f hf=>h.ok.size f (hfr f hf).1,h.ok.most,Nat.le_trans hsub.length_le h.ok.full, ?_,h.ok.link,List.nodup_nil,fun x hx=>by cases hx⟩,back_b h.log,hk,fun f hf=>?_,fun n hn _=>h.log.kept.2 n hn,fun n hn _=>⟨hn,rfl⟩,Nat.le_refl _⟩, ?_⟩
 ·show f.n<P.L.pages
  rw [hk];exact (hbk f hf).1
 ·show P.L.pages≤65536
  omega
 ·obtain ⟨r2,r3⟩:=h.ring f (hfr f hf).1
  exact ⟨r2.trans (hbk f hf).2,fun h2=>by rw [hcl f hf] at h2;cases h2⟩
 ·show (P.L.fs.take P.L.kept).length+(P.rolled.ring.filter (·.dirty)).length≤_
  rw [no_dirty hcl,List.length_take]
  unfold wt
  simp;omega
theorem rollback_then (h:PIn mf P B N) (r:Root N P.free) {fB:Nat} (rB:Root B fB) (hw:wt P≤50000):∃ M,PIn mf P.rollback.1 B M∧wt P.rollback.1≤wt P∧(P.rollback.2=0→Root M P.rollback.1.free)∧(P.rollback.2=6∧¬ P.rolled.root.2=6→Root M P.rollback.1.free)∧Err P.rollback.2 P.rollback.1:=by
 unfold Pl.rollback
 by_cases ha:P.ring.any (fun f=>decide (0<f.pins))=true
 ·rw [if_pos ha]
  exact ⟨N,h,Nat.le_refl _,fun h2=>(by cases h2),fun _=>r,fun _=>.inl (by show (6:Int)≠2;decide)⟩
 ·rw [if_neg ha]
  obtain ⟨r1,r2⟩:=rolled_then h
  generalize P.rolled=R at *
  obtain ⟨g1,g2,g3⟩:=get_in r1 (by omega) 0
  unfold Pl.root
  by_cases hE:(R.get 0).2=0
  ·have ht:=(get_textI r1 (by omega) hE).2.2
   rw [show (0:Int).toNat=0 from rfl,rB.text] at ht
   rw [if_pos hE,ht,open_root rB.le]
   refine ⟨B,g1.withFree (show fB≤2147483647 from rB.le),Nat.le_trans g2 r2,fun _=>rB,fun h2=>(by cases h2.1),fun h2=>absurd rfl h2⟩
  ·rw [if_neg hE]
   exact ⟨B,g1,Nat.le_trans g2 r2,fun h2=>absurd h2 hE,fun h2=>absurd h2.1 h2.2,g3⟩
end
end Go.Proofs.YtjihboddejaelaaGreat
namespace Go.Proofs.YtjihboddejaelaaGreat
open Go.RowKit
variable {mf:Nat}
def Pl.pin (P:Pl) (x:Int):Pl×Int :=
 if (P.get x).2=0 then ((P.get x).1.setLast { (P.get x).1.lastF with pins:=(P.get x).1.lastF.pins+1 },0) else P.get x
def unpinN (x:Nat) (F:List Pf):List Pf:=F.map (fun f=>if f.n=x then { f with pins:=f.pins-1 } else f)
def Pl.unpin (P:Pl) (x:Int):Pl×Int :=
 match findN x P.ring with
 | none=>(P,11)
 | some f=>if f.pins=0 then (P,11) else ({ P with ring:=unpinN f.n P.ring },0)
def Pl.check (P:Pl):Pl×Int:=if P.turned=[] then ({ P with L:=P.L.checkpoint.1 },P.L.checkpoint.2) else (P,11)
def Alike:List Pf→List Pf→Prop
 | [],[]=>True
 | f :: F,g :: G=>f.n=g.n∧f.s=g.s∧f.dirty=g.dirty∧Alike F G
 | _,_=>False
theorem Alike.refl:∀ F:List Pf,Alike F F
 | []=>trivial
 | f :: F=>⟨rfl,rfl,rfl,Alike.refl F⟩
theorem Alike.snoc {f g:Pf} (h1:f.n=g.n) (h2:f.s=g.s) (h3:f.dirty=g.dirty):∀ F:List Pf,Alike (F++[f]) (F++[g])
 | []=>⟨h1,h2,h3,trivial⟩
 | a :: F=>⟨rfl,rfl,rfl,Alike.snoc h1 h2 h3 F⟩
theorem alike_unpin (x:Nat):∀ F:List Pf,Alike (unpinN x F) F
 | []=>trivial
 | f :: F=>by
   unfold unpinN
   rw [List.map_cons]
   refine ⟨?_, ?_, ?_,alike_unpin x F⟩ <;> (split <;> rfl)
theorem Alike.names:∀ {F G:List Pf},Alike F G→F.map (·.n)=G.map (·.n)∧F.length=G.length∧(F.filter (·.dirty)).length=(G.filter (·.dirty)).length
 | [],[],_=>⟨rfl,rfl,rfl⟩
 | f :: F,g :: G,⟨h1,h2,h3,h4⟩=>by
   obtain ⟨a,b,c⟩:=h4.names
   refine ⟨by rw [List.map_cons,List.map_cons,h1,a],by rw [List.length_cons,List.length_cons,b], ?_⟩
   rw [List.filter_cons,List.filter_cons,h3]
   cases g.dirty <;> simp [c]
 | [],_ :: _,h=>h.elim
 | _ :: _,[],h=>h.elim
theorem Alike.mem:∀ {F G:List Pf},Alike F G→∀ f∈F,∃ g∈G,f.n=g.n∧f.s=g.s∧f.dirty=g.dirty
 | [],[],_,f,hf=>by cases hf
 | a :: F,b :: G,⟨h1,h2,h3,h4⟩,f,hf=>by
   rcases List.mem_cons.1 hf with e | hf
   ·subst e;exact ⟨b,List.mem_cons_self ..,h1,h2,h3⟩
   ·obtain ⟨g,hg,h⟩:=h4.mem f hf
    exact ⟨g,List.mem_cons_of_mem _ hg,h⟩
 | [],_ :: _,h,_,_=>h.elim
 | _ :: _,[],h,_,_=>h.elim
theorem Alike.symm:∀ {F G:List Pf},Alike F G→Alike G F
 | [],[],_=>trivial
 | f :: F,g :: G,⟨h1,h2,h3,h4⟩=>⟨h1.symm,h2.symm,h3.symm,h4.symm⟩
 | [],_ :: _,h=>h.elim
 | _ :: _,[],h=>h.elim
section
variable {P:Pl} {B N:Bk}
theorem Pl.ok.repin (ok:P.ok) {F:List Pf} (h:Alike F P.ring):({ P with ring:=F }:Pl).ok:=by
 obtain ⟨a,b,c⟩:=h.names
 refine ⟨ok.log,by show (F.map (·.n)).Nodup;rw [a];exact ok.names,fun f hf=>?_,fun f hf=>?_,ok.most,by show F.length≤_;rw [b];exact ok.full,ok.few,ok.link,ok.turnd,ok.turns⟩
 ·obtain ⟨g,hg,e1,e2,e3⟩:=h.mem f hf
  rw [e1];exact ok.pages g hg
 ·obtain ⟨g,hg,e1,e2,e3⟩:=h.mem f hf
  rw [e2];exact ok.size g hg
theorem PIn.repin (h:PIn mf P B N) {F:List Pf} (ha:Alike F P.ring):PIn mf { P with ring:=F } B N∧wt { P with ring:=F }=wt P:=by
 refine ⟨⟨h.ok.repin ha,h.log,h.pages,fun f hf=>?_,fun n hn hc=>h.lies n hn fun f hf hfn=>?_,h.same,h.le⟩, ?_⟩
 ·obtain ⟨g,hg,e1,e2,e3⟩:=ha.mem f hf
  rw [e1,e2,e3];exact h.ring g hg
 ·obtain ⟨g,hg,e1,e2,e3⟩:=ha.symm.mem f hf
  rw [e3];exact hc g hg (by omega)
 ·show P.L.fs.length+(F.filter (·.dirty)).length=_
  rw [ha.names.2.2];rfl
theorem pin_then (h:PIn mf P B N) (r:Root N P.free) (hw:wt P≤60000) (x:Int):Then mf (P.pin x).1 B (wt P):=by
 obtain ⟨g1,g2,g3⟩:=get_then h r hw x
 unfold Pl.pin
 by_cases hE:(P.get x).2=0
 ·rw [if_pos hE]
  obtain ⟨F0,f,hF,hn,_,_⟩:=get_last h.ok hE
  rw [(lastF_snoc hF).1,(lastF_snoc hF).2]
  have ha:Alike (F0++[{ f with pins:=f.pins+1 }]) (P.get x).1.ring:=by rw [hF];exact Alike.snoc (f:={ f with pins:=f.pins+1 }) (g:=f) rfl rfl rfl F0
  obtain ⟨a,b⟩:=g1.repin ha
  exact ⟨N,a,g2,by rw [b];exact g3⟩
 ·rw [if_neg hE];exact ⟨N,g1,g2,g3⟩
theorem unpin_then (h:PIn mf P B N) (r:Root N P.free) (x:Int):Then mf (P.unpin x).1 B (wt P):=by
 unfold Pl.unpin
 cases hf:findN x P.ring with
 | none=>exact ⟨N,h,r,Nat.le_refl _⟩
 | some f =>
   dsimp only
   by_cases h0:f.pins=0
   ·rw [if_pos h0];exact ⟨N,h,r,Nat.le_refl _⟩
   ·rw [if_neg h0]
    obtain ⟨a,b⟩:=h.repin (alike_unpin f.n P.ring)
    exact ⟨N,a,r,by rw [b];exact Nat.le_refl _⟩
theorem PIn.still (h:PIn mf P B N) (h1:P.turned=[]):PIn mf P N N∧∀ f∈P.ring,f.dirty=false:=by
 have hs:∀ n,n<N.q→n<B.q∧N.K n=B.K n:=fun n hn=>h.same n hn (by rw [h1];simp)
 have he:B.q=N.q:=Nat.le_antisymm h.le (Nat.le_of_not_lt fun h2=>by have:=(hs B.q h2).1;omega)
 refine ⟨⟨h.ok,⟨h.log.safe,⟨⟨h.log.kept.1.1.trans he,h.log.kept.1.2⟩,fun n hn=>by rw [(hs n hn).2];exact h.log.kept.2 n (by omega)⟩,by have:=h.log.few;omega⟩,h.pages,h.ring,h.lies,fun n hn _=>⟨hn,rfl⟩,Nat.le_refl _⟩,fun f hf=>?_⟩
 cases hd:f.dirty
 ·rfl
 ·have:=(h.ring f hf).2 hd
  rw [h1] at this;cases this
theorem check_then (h:PIn mf P B N) (r:Root N P.free):((P.check.2=0∨P.check.2=11)→∃ C,PIn mf P.check.1 C N∧Root N P.check.1.free∧wt P.check.1≤wt P∧(C=B∨C=N))∧(¬ (P.check.2=0∨P.check.2=11)→P.check.2=2∧LostB mf P.check.1.L.D N N):=by
 unfold Pl.check
 by_cases h1:P.turned=[]
 ·rw [if_pos h1]
  obtain ⟨a,b⟩:=h.still h1
  obtain ⟨c1,c2⟩:=a.checked h1 b
  exact ⟨fun hE=>⟨N,(c1 hE).1,r,(c1 hE).2,.inr rfl⟩,c2⟩
 ·rw [if_neg h1]
  exact ⟨fun _=>⟨B,h,r,Nat.le_refl _,.inl rfl⟩,fun h2=>absurd (.inr rfl) h2⟩
end
end Go.Proofs.YtjihboddejaelaaGreat
namespace Go.Proofs.YtjihboddejaelaaGreat
open Go.RowKit
open Go.BigFrame
def Fr.cells (f:Fr):List Value:=[.int .i64 f.n,.string f.text]
def frCells (fs:List Fr):List Value:=fs.flatMap Fr.cells
def rowF (v:Value) (fs:List Fr):Row:=⟨v,207,2,fs.length,frCells fs⟩
def qCells (rd:Nat) (v:Value) (kept pages slot number:Nat):Array Value:=#[.pointer (some ⟨rd,0,none⟩),v,.int .i64 kept,.int .i64 pages,.int .i64 slot,.int .i64 number]
theorem frCells_length:∀ fs:List Fr,(frCells fs).length=fs.length*2
 | []=>rfl
 | f :: fs=>by
   have:=frCells_length fs
   simp only [frCells,List.flatMap_cons,List.length_append,List.length_cons] at this ⊢
   rw [this];simp only [Fr.cells,List.length_cons,List.length_nil];omega
theorem frCells_get:∀ (fs:List Fr) (j:Nat),(frCells fs)[j]? = fs[j / 2]?.bind fun v=>v.cells[j % 2]?
 | [],j=>by simp [frCells]
 | v :: fs,j=>by
   have ih:=frCells_get fs
   show (v.cells++frCells fs)[j]? = _
   rw [List.getElem?_append]
   split
   ·rename_i h
    have h:j<2:=h
    rw [show j / 2=0 by omega,show j % 2=j by omega];rfl
   ·rename_i h
    have h:¬ j<2:=h
    show (frCells fs)[j-2]? = _
    rw [ih,show j / 2=(j-2) / 2+1 by omega,show (j-2) % 2=j % 2 by omega];rfl
theorem frCells_snoc (fs:List Fr) (f:Fr):frCells (fs++[f])=frCells fs++f.cells:=by simp [frCells]
def Fz9 (w:World) (A:Option Addr) (n:Nat) (fs:List Fr):Prop :=
 fs.length=n∧(0<n→∃ b off,A=some ⟨b,off,none⟩∧b<w.heap.size∧∀ i f,fs[i]? = some f →
  w.cell? ⟨b,off+i*2,none⟩=some (.int .i64 f.n)∧w.cell? ⟨b,off+i*2+1,none⟩=some (.string f.text))
theorem Fz9.of_own {w:World} {b:Nat} {e:TypeId} {v:Value} {n:Nat} {fs:List Fr} (h:w.ownsRow b e 2 v n (frCells fs)):∃ A c,v = .slice A n c∧n≤c∧Fz9 w A n fs:=by
 have hl:fs.length=n:=by have:=h.1;rw [frCells_length] at this;omega
 rcases h.2 with ⟨rfl,h0⟩ | ⟨g,cap,cur,rfl,hb,hg,hn,_⟩
 ·subst h0
  exact ⟨none,0,rfl,Nat.le_refl _,hl,fun h=>absurd h (by omega)⟩
 ·refine ⟨_,_,rfl,hn,hl,fun _=>⟨g,0,rfl,(Array.getElem?_eq_some_iff.1 hg).1,fun i c hc=>?_⟩⟩
  have gg:∀ r u,r<2→c.cells[r]? = some u→w.cell? ⟨g,0+(i*2+r),none⟩=some u:=fun r u hr hu=>by
   have:=h.cells (g:=g) rfl (i*2+r) u (by rw [frCells_get,show (i*2+r) / 2=i by omega,show (i*2+r) % 2=r by omega,hc];exact hu)
   rw [addr_add] at this;exact this
  refine ⟨gg 0 _ (by omega) rfl, ?_⟩
  have:=gg 1 _ (by omega) rfl;simpa [Nat.add_assoc] using this
structure LQ (w:World) (b:List (Option Nat)) (rd r:Nat) (c:List (Option Nat)) (L:Lg):Prop where
 disk:RP w b rd L.D
 obj:∃ v,c=blks r [rowF v L.fs]∧Ob w r 74 (qCells rd v L.kept L.pages L.slot L.number) [rowF v L.fs]
 disj:Disj b c
def QPost (u:World) (b:List (Option Nat)) (rd r:Nat) (c:List (Option Nat)) (L':Lg) (v:Value) (e:Ending) (w':World):Prop :=
 e = .returned v∧∃ b' c',LQ w' b' rd r c' L'∧Turn (b++c) (b'++c') u w'
section
variable {w w':World} {b b' c c':List (Option Nat)} {rd r:Nat} {L L':Lg}
theorem LQ.below (h:LQ w b rd r c L) (hb:Below w.heap.size w w'):LQ w' b rd r c L:=by
 obtain ⟨h1,⟨v,rfl,h2⟩,h3⟩:=h
 exact ⟨h1.below hb,⟨v,rfl,h2.below hb⟩,h3⟩
theorem LQ.lt (h:LQ w b rd r c L) {k:Nat} (hk:some k∈b++c):k<w.heap.size:=by
 obtain ⟨h1,⟨v,rfl,h2⟩,h3⟩:=h
 rcases List.mem_append.1 hk with h4 | h4
 ·exact h1.lt h4
 ·exact h2.lt h4
theorem RP.turn {d d':List (Option Nat)} {D:Dk} (h:RP w b rd D) (ht:Turn d d' w w') (hd:Disj d b):RP w' b rd D:=by
 obtain ⟨v,rfl,hO⟩:=h
 exact ⟨v,rfl,hO.far ht hd⟩
theorem LQ.far {d d':List (Option Nat)} (h:LQ w b rd r c L) (ht:Turn d d' w w') (hd:Disj d (b++c)):LQ w' b rd r c L:=by
 obtain ⟨h1,⟨v,rfl,h2⟩,h3⟩:=h
 exact ⟨h1.turn ht fun k hk h4=>hd k hk (List.mem_append_left _ h4),⟨v,rfl,h2.far ht fun k hk h4=>hd k hk (List.mem_append_right _ h4)⟩,h3⟩
theorem LQ.onDisk {D':Dk} (h:LQ w b rd r c L) (hD:RP w' b' rd D') (ht:Turn b b' w w'):LQ w' b' rd r c { L with D:=D' }∧Turn (b++c) (b'++c) w w':=by
 obtain ⟨h1,⟨v,rfl,h2⟩,h3⟩:=h
 exact ⟨⟨hD,⟨v,rfl,h2.far ht h3⟩,h2.disj ht h3⟩,ht.left _⟩
theorem LQ.head (h:LQ w b rd r c L):some r∈c∧some r∉b:=by
 obtain ⟨h1,⟨v,rfl,h2⟩,h3⟩:=h
 exact ⟨List.mem_cons_self ..,fun h4=>h3 r h4 (List.mem_cons_self ..)⟩
theorem LQ.set (h:LQ w b rd r c L) (i:Nat) (u:Value) (L':Lg) (hf:L'.fs=L.fs) (hD:L'.D=L.D) (hc:∀ v,(qCells rd v L.kept L.pages L.slot L.number).setIfInBounds i u=qCells rd v L'.kept L'.pages L'.slot L'.number) :
 LQ (w.setCell ⟨r,i,none⟩ u) b rd r c L'∧Turn (b++c) (b++c) w (w.setCell ⟨r,i,none⟩ u):=by
 have hh:=h.head
 obtain ⟨h1,⟨v,rfl,h2⟩,h3⟩:=h
 have t1:=Turn.cell r i u w
 refine ⟨⟨hD ▸ h1.turn t1 fun k hk h4=>?_,⟨v,by rw [hf], ?_⟩,h3⟩,t1.wide (fun k hk=>?_) (fun k hk=>.inr hk)⟩
 ·have:k=r:=by simpa using hk
  subst this;exact hh.2 h4
 ·rw [hf,← hc v];exact h2.set i u
 ·have:k=r:=by simpa using hk
  subst this;exact List.mem_append_right _ hh.1
theorem LQ.cells (h:LQ w b rd r c L):w.cell? ⟨r,0,none⟩=some (.pointer (some ⟨rd,0,none⟩))∧w.cell? ⟨r,2,none⟩=some (.int .i64 L.kept)∧w.cell? ⟨r,3,none⟩=some (.int .i64 L.pages)∧w.cell? ⟨r,4,none⟩=some (.int .i64 L.slot)∧w.cell? ⟨r,5,none⟩=some (.int .i64 L.number)∧r<w.heap.size∧∀ i,w.frozen? ⟨r,i,none⟩=false:=by
 obtain ⟨h1,⟨v,rfl,h2⟩,h3⟩:=h
 exact ⟨h2.has.cell 0,h2.has.cell 2,h2.has.cell 3,h2.has.cell 4,h2.has.cell 5,h2.has.lt,h2.has.frozen⟩
theorem LQ.frames (h:LQ w b rd r c L):∃ A k,w.cell? ⟨r,1,none⟩=some (.slice A L.fs.length k)∧L.fs.length≤k∧Fz9 w A L.fs.length L.fs:=by
 obtain ⟨h1,⟨v,rfl,h2⟩,h3⟩:=h
 obtain ⟨A,k,hv,hk,hF⟩:=Fz9.of_own (h2.own 0 rfl)
 refine ⟨A,k, ?_,hk,hF⟩
 have:=h2.has.cell 1
 rw [this]
 exact congrArg some hv
end
theorem QPost.refl {w:World} {b c:List (Option Nat)} {rd r:Nat} {L:Lg} {v:Value} (h:LQ w b rd r c L):QPost w b rd r c L v (.returned v) w:=⟨rfl,b,c,h,Turn.refl _ _⟩
set_option maxHeartbeats 400000 in
theorem ref_Pages (b:List (Option Nat)) (rd r:Nat) (c:List (Option Nat)) (L:Lg) (w:World) (h:LQ w b rd r c L):Calls Tryz.prog 65 #[.pointer (some ⟨r,0,none⟩)] w fun e w'=>e = .returned (.int .i64 L.pages)∧w=w':=by
 have x3:=h.cells.2.2.1
 go_enter Tryz.func65,Tryz.ntmps65
 go_wp2_with fail
 go_ret
 exact ⟨rfl,rfl⟩
set_option maxRecDepth 100000 in
set_option maxHeartbeats 6400000 in
theorem ref_tell (b:List (Option Nat)) (rd r:Nat) (c:List (Option Nat)) (L:Lg) (f p:Nat) (w:World) (h:LQ w b rd r c L) (hfit:Fit L.D 2) (hs:L.slot<2) (hnum:L.number<4) (hf:f≤4611686018427387904) (hp:p≤4611686018427387904) :
 Calls Tryz.prog 153 #[.pointer (some ⟨r,0,none⟩),.int .i64 f,.int .i64 p] w (QPost w b rd r c (L.tell f p) (.int .i64 (L.tellE f p))):=by
 have ST:=Lib.hid (ref_slot (L.number % 3+1) f p (by omega) hf hp)
 rw [show ((L.number % 3+1:Nat):Int)=(L.number:Int) % 3+1 by omega] at ST
 have W0:L.D.writeE 1 (16+24*(1-L.slot):Nat) (bsOf (slotL (L.number % 3+1) f p))=L.D.turnE:=writeE_fits (f:=1) ⟨by omega,by rw [bsOf_size,slotL_len];omega⟩
 have TP:=Lib.hid (fun b1 w1 (h1:RP w1 b1 rd L.D)=>refd_Write rd L.D b1 1 (16+24*(1-L.slot):Nat) (bsOf (slotL (L.number % 3+1) f p)) w1 h1 hfit.ok (by have:=hfit.count;omega) (by have:=hfit.waits;omega) (by rw [bsOf_size,slotL_len];omega))
 have hD1:L.D.write 1 (16+24*(1-L.slot):Nat) (bsOf (slotL (L.number % 3+1) f p))=L.tellD f p:=rfl
 rw [W0,hD1] at TP
 have f1:Fit (L.tellD f p) 1:=hfit.write _ _ _
 have TS:=Lib.hid (fun b1 w1 (h1:RP w1 b1 rd (L.tellD f p))=>refd_Sync rd (L.tellD f p) b1 1 w1 h1 f1.ok (by have:=f1.count;omega) (by have:=f1.waits;omega))
 rw [show (L.tellD f p).syncE 1=(L.tellD f p).turnE from syncE_fits (f:=1) (by omega)] at TS
 obtain ⟨S,hS⟩:∃ S,bsOf (slotL (L.number % 3+1) f p)=S:=⟨_,rfl⟩
 rw [hS] at ST TP
 have HL:=Lib.hid h
 have HB:=Lib.hid ((Below.refl w.heap.size w.drew).drew)
 obtain ⟨x0,x2,x3,x4,x5,xz,xf⟩:=h.cells
 have HA1:=Lib.hid (show L.D.stops→L.tellE f p=2∧L.tell f p={ L with D:=L.tellD f p }∧L.D.turnE=2 from fun hs=>⟨if_pos hs,if_pos hs,if_pos hs⟩)
 have HA2:=Lib.hid (show ¬ L.D.stops→(L.tellD f p).stops→L.tellE f p=2∧L.tell f p={ L with D:=(L.tellD f p).sync 1 }∧L.D.turnE=0∧(L.tellD f p).turnE=2 from fun h1 h2=>⟨(if_neg h1).trans (if_pos h2),(if_neg h1).trans (if_pos h2),if_neg h1,if_pos h2⟩)
 have HA3:=Lib.hid (show ¬ L.D.stops→¬ (L.tellD f p).stops→L.tellE f p=0∧L.tell f p={ L with D:=(L.tellD f p).sync 1,slot:=1-L.slot,number:=L.number % 3+1,kept:=f,pages:=p }∧L.D.turnE=0∧(L.tellD f p).turnE=0 from fun h1 h2=>⟨(if_neg h1).trans (if_neg h2),(if_neg h1).trans (if_neg h2),if_neg h1,if_neg h2⟩)
 obtain ⟨D1,hD⟩:∃ D,L.tellD f p=D:=⟨_,rfl⟩
 rw [hD] at TP TS HA1 HA2 HA3
 clear hS W0 hD1 f1 hD h hfit
 have hsl:L.slot=0∨L.slot=1:=by omega
 have HK:=Lib.hid hsl
 rcases HK.out with hk | hk
 ·rw [hk] at x4 TP
  rw [show ((0:Nat):Int)=0 from rfl] at x4
  rw [show (((16+24*(1-0):Nat)):Int)=IntKind.i64.wrap (16+IntKind.i64.wrap 24) by decide] at TP
  have HSL:=Lib.hid hk
  clear hk HK hsl
  by_cases h1:L.D.stops
  ·have EA:=Lib.hid (HA1.out h1)
   rw [EA.out.1,EA.out.2.1]
   rw [EA.out.2.2] at TP
   clear h1 HA1 HA2 HA3 TS
   go_enter Tryz.func153,Tryz.ntmps153
   go_wp2_with fail
   go_region
   go_wp2_with fail
   go_region_held3 (fun w'=>w'.cell? ⟨r,0,none⟩=some (.pointer (some ⟨rd,0,none⟩))) (first | exact z0 | exact y0 | go_keep)
    (first | (go_at_call 201;(with_reducible refine (ST.out _).mono ?_);rintro e w1 ⟨rfl,hb1⟩;have H1:=Lib.hid ((HL.out.below (Below.refl _ _).drew).below (bel_step HB.out hb1 HB.out.size));have HB1:=Lib.hid (bel_step HB.out hb1 HB.out.size);have y0:=H1.out.cells.1) | (go_at_call 200;(with_reducible refine (TP.out _ _ H1.out.disk).mono ?_);rintro e w2 ⟨rfl,b2,hd2,ht2⟩;obtain ⟨hl2,hu2⟩:=H1.out.onDisk hd2 ht2;have HL2:=Lib.hid hl2;have HT2:=Lib.hid (((Turn.below (b++c) (Below.refl _ _).drew).trans (Turn.below _ HB1.out)).trans hu2);have z0:=hl2.cells.1;clear hd2 ht2 hb1 hl2 hu2))
   go_wp2_with fail
   go_ret
   exact ⟨rfl,b2,c,HL2.out,HT2.out⟩
  ·by_cases h2:D1.stops
   ·have EA:=Lib.hid (HA2.out h1 h2)
    rw [EA.out.1,EA.out.2.1]
    rw [EA.out.2.2.1] at TP
    rw [EA.out.2.2.2] at TS
    clear h1 h2 HA1 HA2 HA3
    go_enter Tryz.func153,Tryz.ntmps153
    go_wp2_with fail
    go_region
    go_wp2_with fail
    go_region_held3 (fun w'=>w'.cell? ⟨r,0,none⟩=some (.pointer (some ⟨rd,0,none⟩))) (first | exact z0 | exact y0 | go_keep)
     (first | (go_at_call 201;(with_reducible refine (ST.out _).mono ?_);rintro e w1 ⟨rfl,hb1⟩;have H1:=Lib.hid ((HL.out.below (Below.refl _ _).drew).below (bel_step HB.out hb1 HB.out.size));have HB1:=Lib.hid (bel_step HB.out hb1 HB.out.size);have y0:=H1.out.cells.1) | (go_at_call 200;(with_reducible refine (TP.out _ _ H1.out.disk).mono ?_);rintro e w2 ⟨rfl,b2,hd2,ht2⟩;obtain ⟨hl2,hu2⟩:=H1.out.onDisk hd2 ht2;have HL2:=Lib.hid hl2;have HT2:=Lib.hid (((Turn.below (b++c) (Below.refl _ _).drew).trans (Turn.below _ HB1.out)).trans hu2);have z0:=hl2.cells.1;clear hd2 ht2 hb1 hl2 hu2))
    have y9:=HL2.out.cells.1
    go_wp2_with (go_at_call 152;(with_reducible refine (TS.out _ _ HL2.out.disk).mono ?_);rintro e w3 ⟨rfl,b3,hd3,ht3⟩;obtain ⟨hl3,hu3⟩:=HL2.out.onDisk hd3 ht3;have HL3:=Lib.hid hl3;have HT3:=Lib.hid (HT2.out.trans hu3);obtain ⟨v0,v2,v3,v4,v5,vz,vf⟩:=hl3.cells;clear hd3 ht3 hl3 hu3)
    go_ret
    exact ⟨rfl,b3,c,HL3.out,HT3.out⟩
   ·have EA:=Lib.hid (HA3.out h1 h2)
    rw [EA.out.1,EA.out.2.1]
    rw [EA.out.2.2.1] at TP
    rw [EA.out.2.2.2] at TS
    clear h1 h2 HA1 HA2 HA3
    go_enter Tryz.func153,Tryz.ntmps153
    go_wp2_with fail
    go_region
    go_wp2_with fail
    go_region_held3 (fun w'=>w'.cell? ⟨r,0,none⟩=some (.pointer (some ⟨rd,0,none⟩))) (first | exact z0 | exact y0 | go_keep)
     (first | (go_at_call 201;(with_reducible refine (ST.out _).mono ?_);rintro e w1 ⟨rfl,hb1⟩;have H1:=Lib.hid ((HL.out.below (Below.refl _ _).drew).below (bel_step HB.out hb1 HB.out.size));have HB1:=Lib.hid (bel_step HB.out hb1 HB.out.size);have y0:=H1.out.cells.1) | (go_at_call 200;(with_reducible refine (TP.out _ _ H1.out.disk).mono ?_);rintro e w2 ⟨rfl,b2,hd2,ht2⟩;obtain ⟨hl2,hu2⟩:=H1.out.onDisk hd2 ht2;have HL2:=Lib.hid hl2;have HT2:=Lib.hid (((Turn.below (b++c) (Below.refl _ _).drew).trans (Turn.below _ HB1.out)).trans hu2);have z0:=hl2.cells.1;clear hd2 ht2 hb1 hl2 hu2))
    have y9:=HL2.out.cells.1
    go_wp2_with (go_at_call 152;(with_reducible refine (TS.out _ _ HL2.out.disk).mono ?_);rintro e w3 ⟨rfl,b3,hd3,ht3⟩;obtain ⟨hl3,hu3⟩:=HL2.out.onDisk hd3 ht3;have HL3:=Lib.hid hl3;have HT3:=Lib.hid (HT2.out.trans hu3);obtain ⟨v0,v2,v3,v4,v5,vz,vf⟩:=hl3.cells;clear hd3 ht3 hl3 hu3)
    go_ret
    obtain ⟨q1,t1⟩:=HL3.out.set 4 (.int .i64 ((1-L.slot:Nat):Int)) { L with D:=D1.sync 1,slot:=1-L.slot } rfl rfl (fun v=>rfl)
    obtain ⟨q2,t2⟩:=q1.set 5 (.int .i64 ((L.number % 3+1:Nat):Int)) { L with D:=D1.sync 1,slot:=1-L.slot,number:=L.number % 3+1 } rfl rfl (fun v=>rfl)
    obtain ⟨q3,t3⟩:=q2.set 2 (.int .i64 f) { L with D:=D1.sync 1,slot:=1-L.slot,number:=L.number % 3+1,kept:=f } rfl rfl (fun v=>rfl)
    obtain ⟨q4,t4⟩:=q3.set 3 (.int .i64 p) { L with D:=D1.sync 1,slot:=1-L.slot,number:=L.number % 3+1,kept:=f,pages:=p } rfl rfl (fun v=>rfl)
    have e1:((1-L.slot:Nat):Int)=1:=by rw [HSL.out];rfl
    have e2:((L.number % 3+1:Nat):Int)=(L.number:Int) % 3+1:=by omega
    rw [e1] at t1
    rw [e1,e2] at t2
    rw [e1,e2] at t3
    rw [e1,e2] at q4 t4
    exact ⟨rfl,b3,c,q4,(((HT3.out.trans t1).trans t2).trans t3).trans t4⟩
 ·rw [hk] at x4 TP
  rw [show ((1:Nat):Int)=1 from rfl] at x4
  rw [show (((16+24*(1-1):Nat)):Int)=IntKind.i64.wrap (16+IntKind.i64.wrap 0) by decide] at TP
  have HSL:=Lib.hid hk
  clear hk HK hsl
  by_cases h1:L.D.stops
  ·have EA:=Lib.hid (HA1.out h1)
   rw [EA.out.1,EA.out.2.1]
   rw [EA.out.2.2] at TP
   clear h1 HA1 HA2 HA3 TS
   go_enter Tryz.func153,Tryz.ntmps153
   go_wp2_with fail
   go_region
   go_wp2_with fail
   go_region_held3 (fun w'=>w'.cell? ⟨r,0,none⟩=some (.pointer (some ⟨rd,0,none⟩))) (first | exact z0 | exact y0 | go_keep)
    (first | (go_at_call 201;(with_reducible refine (ST.out _).mono ?_);rintro e w1 ⟨rfl,hb1⟩;have H1:=Lib.hid ((HL.out.below (Below.refl _ _).drew).below (bel_step HB.out hb1 HB.out.size));have HB1:=Lib.hid (bel_step HB.out hb1 HB.out.size);have y0:=H1.out.cells.1) | (go_at_call 200;(with_reducible refine (TP.out _ _ H1.out.disk).mono ?_);rintro e w2 ⟨rfl,b2,hd2,ht2⟩;obtain ⟨hl2,hu2⟩:=H1.out.onDisk hd2 ht2;have HL2:=Lib.hid hl2;have HT2:=Lib.hid (((Turn.below (b++c) (Below.refl _ _).drew).trans (Turn.below _ HB1.out)).trans hu2);have z0:=hl2.cells.1;clear hd2 ht2 hb1 hl2 hu2))
   go_wp2_with fail
   go_ret
   exact ⟨rfl,b2,c,HL2.out,HT2.out⟩
  ·by_cases h2:D1.stops
   ·have EA:=Lib.hid (HA2.out h1 h2)
    rw [EA.out.1,EA.out.2.1]
    rw [EA.out.2.2.1] at TP
    rw [EA.out.2.2.2] at TS
    clear h1 h2 HA1 HA2 HA3
    go_enter Tryz.func153,Tryz.ntmps153
    go_wp2_with fail
    go_region
    go_wp2_with fail
    go_region_held3 (fun w'=>w'.cell? ⟨r,0,none⟩=some (.pointer (some ⟨rd,0,none⟩))) (first | exact z0 | exact y0 | go_keep)
     (first | (go_at_call 201;(with_reducible refine (ST.out _).mono ?_);rintro e w1 ⟨rfl,hb1⟩;have H1:=Lib.hid ((HL.out.below (Below.refl _ _).drew).below (bel_step HB.out hb1 HB.out.size));have HB1:=Lib.hid (bel_step HB.out hb1 HB.out.size);have y0:=H1.out.cells.1) | (go_at_call 200;(with_reducible refine (TP.out _ _ H1.out.disk).mono ?_);rintro e w2 ⟨rfl,b2,hd2,ht2⟩;obtain ⟨hl2,hu2⟩:=H1.out.onDisk hd2 ht2;have HL2:=Lib.hid hl2;have HT2:=Lib.hid (((Turn.below (b++c) (Below.refl _ _).drew).trans (Turn.below _ HB1.out)).trans hu2);have z0:=hl2.cells.1;clear hd2 ht2 hb1 hl2 hu2))
    have y9:=HL2.out.cells.1
    go_wp2_with (go_at_call 152;(with_reducible refine (TS.out _ _ HL2.out.disk).mono ?_);rintro e w3 ⟨rfl,b3,hd3,ht3⟩;obtain ⟨hl3,hu3⟩:=HL2.out.onDisk hd3 ht3;have HL3:=Lib.hid hl3;have HT3:=Lib.hid (HT2.out.trans hu3);obtain ⟨v0,v2,v3,v4,v5,vz,vf⟩:=hl3.cells;clear hd3 ht3 hl3 hu3)
    go_ret
    exact ⟨rfl,b3,c,HL3.out,HT3.out⟩
   ·have EA:=Lib.hid (HA3.out h1 h2)
    rw [EA.out.1,EA.out.2.1]
    rw [EA.out.2.2.1] at TP
    rw [EA.out.2.2.2] at TS
    clear h1 h2 HA1 HA2 HA3
    go_enter Tryz.func153,Tryz.ntmps153
    go_wp2_with fail
    go_region
    go_wp2_with fail
    go_region_held3 (fun w'=>w'.cell? ⟨r,0,none⟩=some (.pointer (some ⟨rd,0,none⟩))) (first | exact z0 | exact y0 | go_keep)
     (first | (go_at_call 201;(with_reducible refine (ST.out _).mono ?_);rintro e w1 ⟨rfl,hb1⟩;have H1:=Lib.hid ((HL.out.below (Below.refl _ _).drew).below (bel_step HB.out hb1 HB.out.size));have HB1:=Lib.hid (bel_step HB.out hb1 HB.out.size);have y0:=H1.out.cells.1) | (go_at_call 200;(with_reducible refine (TP.out _ _ H1.out.disk).mono ?_);rintro e w2 ⟨rfl,b2,hd2,ht2⟩;obtain ⟨hl2,hu2⟩:=H1.out.onDisk hd2 ht2;have HL2:=Lib.hid hl2;have HT2:=Lib.hid (((Turn.below (b++c) (Below.refl _ _).drew).trans (Turn.below _ HB1.out)).trans hu2);have z0:=hl2.cells.1;clear hd2 ht2 hb1 hl2 hu2))
    have y9:=HL2.out.cells.1
    go_wp2_with (go_at_call 152;(with_reducible refine (TS.out _ _ HL2.out.disk).mono ?_);rintro e w3 ⟨rfl,b3,hd3,ht3⟩;obtain ⟨hl3,hu3⟩:=HL2.out.onDisk hd3 ht3;have HL3:=Lib.hid hl3;have HT3:=Lib.hid (HT2.out.trans hu3);obtain ⟨v0,v2,v3,v4,v5,vz,vf⟩:=hl3.cells;clear hd3 ht3 hl3 hu3)
    go_ret
    obtain ⟨q1,t1⟩:=HL3.out.set 4 (.int .i64 ((1-L.slot:Nat):Int)) { L with D:=D1.sync 1,slot:=1-L.slot } rfl rfl (fun v=>rfl)
    obtain ⟨q2,t2⟩:=q1.set 5 (.int .i64 ((L.number % 3+1:Nat):Int)) { L with D:=D1.sync 1,slot:=1-L.slot,number:=L.number % 3+1 } rfl rfl (fun v=>rfl)
    obtain ⟨q3,t3⟩:=q2.set 2 (.int .i64 f) { L with D:=D1.sync 1,slot:=1-L.slot,number:=L.number % 3+1,kept:=f } rfl rfl (fun v=>rfl)
    obtain ⟨q4,t4⟩:=q3.set 3 (.int .i64 p) { L with D:=D1.sync 1,slot:=1-L.slot,number:=L.number % 3+1,kept:=f,pages:=p } rfl rfl (fun v=>rfl)
    have e1:((1-L.slot:Nat):Int)=0:=by rw [HSL.out];rfl
    have e2:((L.number % 3+1:Nat):Int)=(L.number:Int) % 3+1:=by omega
    rw [e1] at t1
    rw [e1,e2] at t2
    rw [e1,e2] at t3
    rw [e1,e2] at q4 t4
    exact ⟨rfl,b3,c,q4,(((HT3.out.trans t1).trans t2).trans t3).trans t4⟩
end Go.Proofs.YtjihboddejaelaaGreat
namespace Go.Proofs.YtjihboddejaelaaGreat
open Go.RowKit
open Go.BigFrame
theorem fr_one (fs:List Fr):∀ u∈frCells fs,u.oneCell'=true:=fun u hu=>by
 obtain ⟨f,_,hf⟩:=List.mem_flatMap.1 hu
 simp only [Fr.cells,List.mem_cons,List.not_mem_nil,or_false] at hf
 rcases hf with rfl | rfl <;> rfl
theorem Fz9.keep {w w':World} {A:Option Addr} {n:Nat} {fs:List Fr} (h:Fz9 w A n fs) (hb:Below w.heap.size w w'):Fz9 w' A n fs :=
 ⟨h.1,fun hn=>by
   obtain ⟨b,off,hA,hl,hc⟩:=h.2 hn
   refine ⟨b,off,hA,Nat.lt_of_lt_of_le hl hb.size,fun i v hv=>?_⟩
   obtain ⟨c0,c1⟩:=hc i v hv
   exact ⟨(hb.cell hl).trans c0,(hb.cell hl).trans c1⟩⟩
theorem Fz9.src {w:World} {A:Option Addr} {n c:Nat} {fs:List Fr} (h:Fz9 w A n fs) {e' tx:TypeId} {P:Program} (hk:P.underlying tx=some (.slice e')):Src P 2 tx (.slice A n c) n (frCells fs) w:=by
 rcases Nat.eq_zero_or_pos n with rfl | hn
 ·have hv:fs=[]:=List.eq_nil_of_length_eq_zero h.1
  subst hv
  cases A with
  | none=>exact Src.ofNil w hk c
  | some a=>exact Src.ofSlice w hk a 0 c [] rfl (fun j u hu=>by simp at hu) (fun u hu=>by simp at hu)
 ·obtain ⟨b,off,rfl,hb,hc⟩:=h.2 hn
  exact Src.ofSlice w hk _ n c _ (by rw [frCells_length,h.1]) (fun j u hu=>by
   rw [addr_add]
   rw [frCells_get] at hu
   obtain ⟨f,hf,hu2⟩:=Option.bind_eq_some_iff.1 hu
   obtain ⟨c0,c1⟩:=hc _ f hf
   rcases (show j % 2=0∨j % 2=1 by omega) with h2 | h2
   ·rw [h2] at hu2;cases hu2
    rw [show off+j=off+j / 2*2 by omega];exact c0
   ·rw [h2] at hu2;cases hu2
    rw [show off+j=off+j / 2*2+1 by omega];exact c1) (fr_one fs)
theorem infoFrame:(Tryz.prog.info? 207).map (fun i=>(i.zero,i.size,i.bytes))=some (some (.agg #[.int .i64 0,.string ⟨#[]⟩]),2,24):=by kernel_rfl
theorem zeroCellsFrame:(Value.agg #[.int .i64 0,.string ⟨#[]⟩]).cells.size=2:=by kernel_rfl
theorem own_len2 {w:World} {b:Nat} {e:TypeId} {A:Option Addr} {n c k:Nat} {fs:List Fr} (h:w.ownsRow b e 2 (.slice A n c) n (frCells fs)) (hk:k≤n):w.ownsRow b e 2 (.slice A k c) k (frCells (fs.take k)):=by
 have hl:fs.length=n:=by have:=h.1;rw [frCells_length] at this;omega
 refine ⟨by rw [frCells_length,List.length_take];omega, ?_⟩
 rcases h.2 with ⟨h1,h2⟩ | ⟨g,cap,cur,hv,hbg,hg,hnc,hcm,hcs,htk⟩
 ·cases h1;have:k=0:=by omega
  subst this;exact .inl ⟨rfl,rfl⟩
 ·cases hv
  refine .inr ⟨g,c,cur,rfl,hbg,hg,by omega,hcm,hcs, ?_⟩
  have e:(cur.toList.take (n*2)).take (k*2)=cur.toList.take (k*2):=by rw [List.take_take,Nat.min_eq_left (by omega)]
  rw [← e,htk]
  have h3:frCells fs=frCells (fs.take k)++frCells (fs.drop k):=by
   unfold frCells
   rw [← List.flatMap_append,List.take_append_drop]
  rw [h3,List.take_append_of_le_length (by rw [frCells_length,List.length_take];omega),List.take_of_length_le (by rw [frCells_length,List.length_take];omega)]
theorem slice_frames (A:Option Addr) (m c a:Nat) (h:a≤c) (w:World):(Instr.sliceAt 72 (.slice A m c) none (some (.int .i64 a)) none).run Tryz.prog w = .ok (.slice A a c) w:=by
 have h1:(0:Int)≤(a:Int):=by omega
 have h2:(a:Int)≤(c:Int):=by omega
 go_simp
section
variable {w w':World} {b c:List (Option Nat)} {rd r:Nat} {L:Lg}
theorem LQ.newFrames (h:LQ w b rd r c L) {v':Value} {fs':List Fr} (hb:Below w.heap.size w w') (hown:w'.ownsRow w.heap.size 207 2 v' fs'.length (frCells fs')) :
 ∃ c',LQ (w'.setCell ⟨r,1,none⟩ v') b rd r c' { L with fs:=fs' }∧Turn (b++c) (b++c') w (w'.setCell ⟨r,1,none⟩ v'):=by
 have hh:=h.head
 have hlt:=fun k=>@LQ.lt w b c rd r L h k
 obtain ⟨h1,⟨v,rfl,h2⟩,h3⟩:=h
 have hr:∀ k,v'.ownBlock=some k→w.heap.size≤k:=fun k hk=>(hown.lt k hk).1
 have q1:=(h2.below hb).swap 0 (r':=rowF v' fs') rfl (own_mono0 hown) (fun k hk h4=>by
  have h5:v'.ownBlock=some k:=hk
  have:=hr k h5;have:=h2.lt h4;omega)
 have q2:=q1.set 1 v'
 have t1:=Turn.cell r 1 v' w'
 have hlr:=h2.has.lt
 refine ⟨blks r [rowF v' fs'],⟨(h1.below hb).turn t1 fun k hk h4=>?_,⟨v',rfl,q2⟩,fun k hk h4=>?_⟩, ?_⟩
 ·have:k=r:=by simpa using hk
  subst this;exact hh.2 h4
 ·rcases List.mem_cons.1 h4 with e | h5
  ·cases e;exact hh.2 hk
  ·have h6:v'.ownBlock=some k:=by simpa [rowF,eq_comm] using h5
   have:=hr k h6;have:=hlt k (List.mem_append_left _ hk);omega
 ·refine (Turn.below (b++blks r [rowF v L.fs]) hb).trans' t1 (fun k hk=>?_) (fun k hk=>?_)
  ·have:k=r:=by simpa using hk
   subst this;exact List.mem_append_right _ hh.1
  ·rcases List.mem_append.1 hk with h5 | h5
   ·exact .inl (List.mem_append_left _ h5)
   ·rcases List.mem_cons.1 h5 with e | h6
    ·cases e;exact .inl (List.mem_append_right _ hh.1)
    ·have h7:v'.ownBlock=some k:=by simpa [rowF,eq_comm] using h6
     exact .inr (hr k h7)
theorem LQ.fewer (h:LQ w b rd r c L) {A:Option Addr} {k m:Nat} (hc:w.cell? ⟨r,1,none⟩=some (.slice A L.fs.length m)) (hk:k≤L.fs.length) :
 ∃ c',LQ (w.setCell ⟨r,1,none⟩ (.slice A k m)) b rd r c' { L with fs:=L.fs.take k }∧Turn (b++c) (b++c') w (w.setCell ⟨r,1,none⟩ (.slice A k m)):=by
 have hh:=h.head
 obtain ⟨h1,⟨v,rfl,h2⟩,h3⟩:=h
 have e1:v = .slice A L.fs.length m:=by
  have:=h2.has.cell 1
  rw [hc] at this
  exact (Option.some.inj this).symm
 subst e1
 have hl:(L.fs.take k).length=k:=by rw [List.length_take];omega
 have ho:w.ownsRow 0 207 2 (.slice A k m) (L.fs.take k).length (frCells (L.fs.take k)):=by rw [hl];exact own_len2 (h2.own 0 rfl) hk
 have hbl:(Value.slice A k m).ownBlock=some 0∨∀ j,(Value.slice A k m).ownBlock=some j↔(Value.slice A L.fs.length m).ownBlock=some j:=.inr fun j=>by cases A <;> rfl
 obtain ⟨q1,t0⟩:=h2.row 0 (r':=rowF (.slice A k m) (L.fs.take k)) rfl (grownBy_refl _ _) ho (.inl (by cases A <;> rfl))
 have q2:=q1.set 1 (.slice A k m)
 have t1:=Turn.cell r 1 (.slice A k m) w
 have hsub:∀ j,some j∈blks r [rowF (.slice A k m) (L.fs.take k)]→some j∈blks r [rowF (.slice A L.fs.length m) L.fs]:=fun j hj=>by
  rcases List.mem_cons.1 hj with e | h6
  ·cases e;exact List.mem_cons_self ..
  ·refine List.mem_cons_of_mem _ ?_
   simp only [List.map_cons,List.map_nil,List.mem_singleton] at h6 ⊢
   rw [h6];cases A <;> rfl
 refine ⟨blks r [rowF (.slice A k m) (L.fs.take k)],⟨h1.turn t1 fun j hj h4=>?_,⟨_,rfl,q2⟩,fun j hj h4=>h3 j hj (hsub j h4)⟩, ?_⟩
 ·have:j=r:=by simpa using hj
  subst this;exact hh.2 h4
 ·refine (Turn.refl (b++blks r [rowF (.slice A L.fs.length m) L.fs]) w).trans' t1 (fun j hj=>?_) (fun j hj=>?_)
  ·have:j=r:=by simpa using hj
   subst this;exact List.mem_append_right _ hh.1
  ·rcases List.mem_append.1 hj with h5 | h5
   ·exact .inl (List.mem_append_left _ h5)
   ·exact .inl (List.mem_append_right _ (hsub j h5))
end
set_option maxRecDepth 100000 in
set_option maxHeartbeats 1600000 in
theorem ref_Back (b:List (Option Nat)) (rd r:Nat) (c:List (Option Nat)) (L:Lg) (w:World) (h:LQ w b rd r c L) (hk:L.kept≤L.fs.length) :
 Calls Tryz.prog 165 #[.pointer (some ⟨r,0,none⟩)] w (QPost w b rd r c L.back (.tuple #[])):=by
 have HL:=Lib.hid h
 obtain ⟨x0,x2,x3,x4,x5,xz,xf⟩:=h.cells
 obtain ⟨A,m,x1,hm,_⟩:=h.frames
 have HX:=Lib.hid x1
 have HK:=Lib.hid hk
 have sl:=fun w=>slice_frames A L.fs.length m L.kept (by omega) w
 clear h
 go_enter Tryz.func165,Tryz.ntmps165
 go_wp2_with fail
 go_region
 all_goals
  go_wp2_with fail
  go_end0
  obtain ⟨c',q1,q2⟩:=HL.out.fewer HX.out HK.out
  exact ⟨rfl,b,c',q1.below (Below.refl _ _).drew,q2.trans (Turn.below _ (Below.refl _ _).drew)⟩
theorem app_facts {w2 w6 w7:World} {b c:List (Option Nat)} {rd r:Nat} {L:Lg} {v6:Value} {e:TypeId} {n:Nat} {xs:List Value} {o:Obj} (h:LQ w2 b rd r c L) (hg6:w2.grownBy w6 (Value.ownBlock (.slice none 0 0))) (ho6:w6.ownsRow w2.heap.size e 2 v6 n xs) (hg7:(w6.alloc o).grownBy w7 v6.ownBlock) :
 Below w2.heap.size w2 w7∧(∃ A m,w7.cell? ⟨r,1,none⟩=some (.slice A L.fs.length m))∧r<w7.heap.size∧∀ i,w7.frozen? ⟨r,i,none⟩=false:=by
 have b7:Below w2.heap.size w2 w7:=(((Below.refl w2.heap.size w2).grown hg6 (Nat.le_refl _) (fun k hk=>by cases hk)).alloc hg6.size _).grown hg7 (Nat.le_trans hg6.size (by simp)) (fun k hk=>(ho6.lt k hk).1)
 have L7:=h.below b7
 obtain ⟨A,m,f7,_,_⟩:=L7.frames
 exact ⟨b7,⟨A,m,f7⟩,L7.cells.2.2.2.2.2.1,L7.cells.2.2.2.2.2.2⟩
set_option maxRecDepth 100000 in
set_option maxHeartbeats 6400000 in
theorem ref_Append (b:List (Option Nat)) (rd r:Nat) (c:List (Option Nat)) (L:Lg) (n:Int) (t:ByteArray) (w:World) (h:LQ w b rd r c L) (hfit:Fit L.D 1) (hlen:L.fs.length≤100000) (htz:t.size≤9223372036854775807) :
 Calls Tryz.prog 151 #[.pointer (some ⟨r,0,none⟩),.int .i64 n,.string t] w (QPost w b rd r c (L.append n t) (.int .i64 (L.appendE n t))):=by
 have HL:=Lib.hid h
 obtain ⟨x0,x2,x3,x4,x5,xz,xf⟩:=h.cells
 obtain ⟨A,m,x1,hm,hF⟩:=h.frames
 have HFS:=Lib.hid hF
 have HF:=Lib.hid hfit
 have IN:=Lib.hid (fun w1=>ref_inB n 0 2147483647 w1)
 clear h hfit hF
 by_cases hn:0≤n∧n≤2147483647
 ·rw [inB_yes hn.1 hn.2] at IN
  by_cases hz:t.size=1024
  ·have hA:L.fitsA n t:=⟨hn.1,hn.2,hz⟩
   by_cases hr:L.at_+1028≤67108864
   ·have hw:L.D.writeE 1 L.at_ (bsOf (Fr.bytes ⟨n.toNat,t⟩))=L.D.turnE:=writeE_fits (f:=1) ⟨by omega,by rw [bsOf_size,Fr.bytes_len _ hz];exact hr⟩
    have EA:=Lib.hid (show L.append n t={ L with D:=L.D.write 1 L.at_ (bsOf (Fr.bytes ⟨n.toNat,t⟩)),fs:=if L.D.stops then L.fs else L.fs++[⟨n.toNat,t⟩] } from if_pos ⟨hA,hr⟩)
    have EE:=Lib.hid (show L.appendE n t=L.D.turnE from (if_pos hA).trans (if_pos hr))
    have TP:=Lib.hid (fun b1 w1 (h1:RP w1 b1 rd L.D)=>refd_Write rd L.D b1 1 L.at_ (bsOf (Fr.bytes ⟨n.toNat,t⟩)) w1 h1 HF.out.ok (by have:=HF.out.count;omega) (by have:=HF.out.waits;omega) (by rw [bsOf_size,Fr.bytes_len _ hz];omega))
    rw [hw] at TP
    have BY:=Lib.hid (fun w1=>ref_bytes n.toNat 4 (by omega) (by omega) w1)
    have HS:bsOf (Fr.bytes ⟨n.toNat,t⟩)=bsOf (beK n.toNat 4)++t:=by unfold Fr.bytes;rw [← bsOf_append,bsOf_of]
    rw [HS] at TP EA
    obtain ⟨s1,hs1⟩:∃ s,bsOf (beK n.toNat 4)=s:=⟨_,rfl⟩
    have z1:s1.size=4:=by rw [← hs1,bsOf_size,beK_len]
    rw [hs1] at TP BY EA
    have e0:((n.toNat:Nat):Int)=n:=Int.toNat_of_nonneg hn.1
    rw [e0,show ((4:Nat):Int)=4 from rfl] at BY
    have z3:((t.size:Int) != 1024)=false:=by rw [bne_eq_false_iff_eq];omega
    have z4:t.size≤1024:=by omega
    have hat:(L.at_:Int)=64+1028*(L.fs.length:Int):=by unfold Lg.at_;omega
    rw [hat] at TP EA
    have d3:decide ((67108864:Int)<64+1028*(L.fs.length:Int)+1028)=false:=by simp;omega
    have u1:IntKind.u64.wrap n=n:=(show IntKind.u64.wrap n=n % 18446744073709551616 from rfl).trans (by omega)
    rw [← u1] at BY
    clear u1
    rw [EE.out]
    have HN:=Lib.hid hn
    have HZ:=Lib.hid hz
    clear hs1 HS hw hat hA hr EE hz hn htz
    have LD:=Lib.hid (HL.out.below (Below.refl _ _).drew)
    have HB:=Lib.hid ((Below.refl w.heap.size w).drew)
    by_cases hst:L.D.stops
    ·have E2:L.D.turnE=2:=if_pos hst
     rw [E2] at TP ⊢
     rw [if_pos hst] at EA
     clear hst E2
     go_enter Tryz.func151,Tryz.ntmps151
     go_wp2_with (go_at_call 63;refine (IN.out _).mono ?_;rintro e w1 ⟨rfl,rfl⟩)
     go_region_with (first | (go_at_call 149;(with_reducible refine (BY.out _).mono ?_);rintro e w1 ⟨rfl,hb1⟩;have H1:=Lib.hid (LD.out.below hb1);have HB1:=Lib.hid (bel_step HB.out hb1 HB.out.size);have y0:=H1.out.cells.1) | (go_at_call 200;(with_reducible refine (TP.out _ _ H1.out.disk).mono ?_);rintro e w2 ⟨rfl,b2,hd2,ht2⟩;obtain ⟨hl2,hu2⟩:=H1.out.onDisk hd2 ht2;have HL2:=Lib.hid hl2;have HT2:=Lib.hid ((Turn.below (b++c) HB1.out).trans hu2);clear hd2 ht2 hb1 hl2 hu2))
     all_goals
      go_wp2_with fail
      go_ret
      rw [EA.out]
      exact ⟨rfl,b2,c,HL2.out,HT2.out⟩
    ·have E2:L.D.turnE=0:=if_neg hst
     rw [E2] at TP ⊢
     rw [if_neg hst] at EA
     clear hst E2
     obtain ⟨i0,hi,hz0,hz1,hz2⟩:=info_parts infoFrame
     have G1:=Lib.hid (show 0+L.fs.length≤maxLen by unfold maxLen;omega)
     have G2:=Lib.hid (show (0+L.fs.length)*24≤140737488355328 by omega)
     have G3:=Lib.hid (show 0+L.fs.length+1≤maxLen by unfold maxLen;omega)
     have G4:=Lib.hid (show (0+L.fs.length+1)*24≤140737488355328 by omega)
     go_enter Tryz.func151,Tryz.ntmps151
     go_wp2_with (go_at_call 63;refine (IN.out _).mono ?_;rintro e w1 ⟨rfl,rfl⟩)
     go_region_with (first | (go_at_call 149;(with_reducible refine (BY.out _).mono ?_);rintro e w1 ⟨rfl,hb1⟩;have H1:=Lib.hid (LD.out.below hb1);have HB1:=Lib.hid (bel_step HB.out hb1 HB.out.size);have y0:=H1.out.cells.1) | (go_at_call 200;(with_reducible refine (TP.out _ _ H1.out.disk).mono ?_);rintro e w2 ⟨rfl,b2,hd2,ht2⟩;obtain ⟨hl2,hu2⟩:=H1.out.onDisk hd2 ht2;have HL2:=Lib.hid hl2;have HT2:=Lib.hid ((Turn.below (b++c) HB1.out).trans hu2);clear hd2 ht2 hb1 hl2 hu2))
     all_goals
      obtain ⟨A2,m2,v1,hm2,hF2⟩:=HL2.out.frames
      have HF2:=Lib.hid hF2
      obtain ⟨v0,v2,v3,v4,v5,vz,vf⟩:=HL2.out.cells
      clear hF2
      have C1:=Lib.hid v1
      dsimp only at v1
      go_wp2_with (first
       | (at_builtin;refine wpList_append_src _ rfl (.const (.slice none 0 0)) (.tmp 45) 72 72 rfl w2.heap.size 207 i0 _ 2 24 Tryz.underlying72 hi hz0 hz1 hz2 zeroCellsFrame (by decide) (.slice none 0 0) 0 [] rfl (World.ownsRow_nil _ _ _ _) (.slice A2 L.fs.length m2) L.fs.length (frCells L.fs) rfl (HF2.out.src Tryz.underlying72) G1.out G2.out (Nat.le_refl _) ?_;intro v6 w6 hown6 hg6 _ hat6;have HO6:=Lib.hid hown6;have HG6:=Lib.hid hg6;have HA6:=Lib.hid hat6;clear hown6 hg6 hat6)
       | (at_builtin;refine wpList_append_src _ rfl (.tmp 46) (.tmp 50) 72 72 rfl w2.heap.size 207 i0 _ 2 24 Tryz.underlying72 hi hz0 hz1 hz2 zeroCellsFrame (by decide) v6 (0+L.fs.length) ([]++frCells L.fs) rfl (HO6.out.alloc _) (.slice (some ⟨w6.heap.size,0,none⟩) 1 1) 1 [.int .i64 n,.string t] rfl (Src.ofSlice _ Tryz.underlying72 ⟨w6.heap.size,0,none⟩ 1 1 [.int .i64 n,.string t] rfl (World.news_of_block (heap_alloc_new w6 _)) (by simp [Value.oneCell'])) G3.out G4.out (Nat.le_trans HG6.out.size (by simp)) ?_;intro v7 w7 hown7 hg7 _ hat7;obtain ⟨A7,m7,rfl,_⟩:=own_form hown7;have HO7:=Lib.hid hown7;obtain ⟨b7,⟨_,_,f7⟩,z7,ff7⟩:=app_facts HL2.out HG6.out HO6.out hg7;have HB7:=Lib.hid b7;clear hown7 hg7 hat7 b7))
      go_ret
      have ho:=HO7.out
      rw [Nat.zero_add,List.nil_append,show [Value.int .i64 n,.string t]=Fr.cells ⟨n.toNat,t⟩ by unfold Fr.cells;rw [Int.toNat_of_nonneg HN.out.1],← frCells_snoc,show L.fs.length+1=(L.fs++[(⟨n.toNat,t⟩:Fr)]).length by simp] at ho
      obtain ⟨c',q1,q2⟩:=HL2.out.newFrames HB7.out ho
      rw [show (L.fs++[(⟨n.toNat,t⟩:Fr)]).length=L.fs.length+1 by simp] at q1 q2
      rw [EA.out]
      exact ⟨rfl,b2,c',q1,HT2.out.trans q2⟩
   ·have EA:L.append n t=L∧L.appendE n t=8:=⟨if_neg (fun h=>hr h.2),(if_pos hA).trans (if_neg hr)⟩
    rw [EA.1,EA.2]
    have z3:((t.size:Int) != 1024)=false:=by rw [bne_eq_false_iff_eq];omega
    have d3:decide ((67108864:Int)<64+1028*(L.fs.length:Int)+1028)=true:=by unfold Lg.at_ at hr;simp;omega
    clear EA hA hr hn hz
    go_enter Tryz.func151,Tryz.ntmps151
    go_wp2_with (go_at_call 63;refine (IN.out _).mono ?_;rintro e w1 ⟨rfl,rfl⟩)
    go_ret
    exact QPost.refl HL.out
  ·have EA:L.append n t=L∧L.appendE n t=1:=⟨if_neg (fun h=>hz h.1.2.2),if_neg (fun h=>hz h.2.2)⟩
   rw [EA.1,EA.2]
   have z3:((t.size:Int) != 1024)=true:=by rw [bne_iff_ne];omega
   clear EA hn hz
   go_enter Tryz.func151,Tryz.ntmps151
   go_wp2_with (go_at_call 63;refine (IN.out _).mono ?_;rintro e w1 ⟨rfl,rfl⟩)
   go_ret
   exact QPost.refl HL.out
 ·rw [inB_no hn] at IN
  have EA:L.append n t=L∧L.appendE n t=1:=⟨if_neg (fun h=>hn ⟨h.1.1,h.1.2.1⟩),if_neg (fun h=>hn ⟨h.1,h.2.1⟩)⟩
  rw [EA.1,EA.2]
  clear EA hn
  go_enter Tryz.func151,Tryz.ntmps151
  go_wp2_with (go_at_call 63;refine (IN.out _).mono ?_;rintro e w1 ⟨rfl,rfl⟩)
  go_ret
  exact QPost.refl HL.out
end Go.Proofs.YtjihboddejaelaaGreat
