/-
  A commit on a disk that does not fail. No program in sight.
-/
import Derived.Test.YtjihboddejaelaaGreatPr15
import Derived.Test.YtjihboddejaelaaGreatPr17
import Derived.Test.YtjihboddejaelaaGreatPr4
import Derived.Test.YtjihboddejaelaaGreatPr12
set_option linter.unusedVariables false
set_option linter.unusedSimpArgs false
namespace Go.Proofs.YtjihboddejaelaaGreat
open Go.RowKit
theorem calm_commitE {L:Lg} (h:L.D.calm) (hlen:L.fs.length≤60000) {n p:Nat} (hn:n≤65536) (hp:1≤p∧p≤65536) {t:ByteArray} (ht:t.size=1024) (hs:L.slot<2):L.commitE n t p=0∧(L.commit n t p).D.calm:=by
 obtain ⟨e1,e2⟩:=append_eqQ hlen hn ht
 have hA:L.appendE n t=0:=e1.trans h.turnE
 have hc:(L.append n t).D.calm:=by rw [e2];exact h.change _
 have hsl:(L.append n t).slot<2:=by rw [e2];exact hs
 have cE:L.commitE n t p=if L.appendE n t=0 then (if (L.append n t).D.stops then 2 else ({ L.append n t with D:=(L.append n t).D.sync 1 }:Lg).tellE (L.append n t).fs.length p) else L.appendE n t:=(if_pos (by omega)).trans (by rw [Int.toNat_natCast])
 have cT:L.commit n t p=if L.appendE n t=0 then (if (L.append n t).D.stops then { L.append n t with D:=(L.append n t).D.sync 1 } else ({ L.append n t with D:=(L.append n t).D.sync 1 }:Lg).tell (L.append n t).fs.length p) else L.append n t:=(if_pos (by omega)).trans (by rw [Int.toNat_natCast])
 rw [cE,cT,if_pos hA,if_pos hA,if_neg hc.go,if_neg hc.go]
 have hy:=hc.sync 1
 generalize L.append n t=A at *
 have ht2:(({ A with D:=A.D.sync 1 }:Lg).tellD A.fs.length p).calm:=hy.write _ _ _
 refine ⟨(if_neg (show ¬ ({ A with D:=A.D.sync 1 }:Lg).D.stops from hy.go)).trans ht2.turnE, ?_⟩
 have e:({ A with D:=A.D.sync 1 }:Lg).tell A.fs.length p={ ({ A with D:=A.D.sync 1 }:Lg) with D:=(({ A with D:=A.D.sync 1 }:Lg).tellD A.fs.length p).sync 1,slot:=1-A.slot,number:=A.number % 3+1,kept:=A.fs.length,pages:=p }:=(if_neg (show ¬ ({ A with D:=A.D.sync 1 }:Lg).D.stops from hy.go)).trans (if_neg ht2.go)
 rw [e]
 exact ht2.sync 1
def firstB:Bk:=⟨1,fun _=>metaS⟩
end Go.Proofs.YtjihboddejaelaaGreat
namespace Go.Proofs.YtjihboddejaelaaGreat
open Go.RowKit
structure Near (D D':Dk) (c:Nat):Prop where
 ok:D.ok→D'.ok
 waits:D'.waits.length≤D.waits.length+c
 count:D'.count≤D.count+c
section
variable {D D1 D2:Dk} {c d:Nat}
theorem Near.refl (D:Dk) (c:Nat):Near D D c:=⟨id,Nat.le_add_right ..,Nat.le_add_right ..⟩
theorem Near.mono (h:Near D D1 c) (hc:c≤d):Near D D1 d:=⟨h.ok,by have:=h.waits;omega,by have:=h.count;omega⟩
theorem Near.trans (h:Near D D1 c) (k:Near D1 D2 d):Near D D2 (c+d):=⟨fun x=>k.ok (h.ok x),by have:=h.waits;have:=k.waits;omega,by have:=h.count;have:=k.count;omega⟩
theorem write_near (D:Dk) (f a:Int) (s:ByteArray):Near D (D.write f a s) 1:=⟨fun h=>Dk.write_ok h f a s,(write_len D f a s).1,(write_len D f a s).2⟩
theorem cut_near (D:Dk) (f a:Int):Near D (D.cutD f a) 1:=⟨fun h=>Dk.cut_ok h f a,(cut_len D f a).1,(cut_len D f a).2⟩
theorem sync_near (D:Dk) (f:Int):Near D (D.sync f) 1:=⟨fun h=>Dk.sync_ok h f,by have:=(sync_len D f).1;omega,(sync_len D f).2⟩
end
theorem append_near (L:Lg) (n:Int) (t:ByteArray):Near L.D (L.append n t).D 1:=by
 unfold Lg.append
 split
 ·exact write_near _ _ _ _
 ·exact .refl _ _
theorem tell_near (L:Lg) (f p:Nat):Near L.D (L.tell f p).D 2:=by
 have h1:Near L.D (L.tellD f p) 1:=write_near _ _ _ _
 unfold Lg.tell
 split
 ·exact h1.mono (by omega)
 ·have h2:Near L.D ((L.tellD f p).sync 1) 2:=h1.trans (sync_near _ _)
  split
  ·exact h2
  ·exact h2
theorem commit_nearL (L:Lg) (n:Int) (t:ByteArray) (p:Int):Near L.D (L.commit n t p).D 4:=by
 have h1:=append_near L n t
 have h2:Near L.D ((L.append n t).D.sync 1) 2:=h1.trans (sync_near _ _)
 unfold Lg.commit
 split
 ·split
  ·split
   ·exact h2.mono (by omega)
   ·exact h2.trans (tell_near ({ L.append n t with D:=(L.append n t).D.sync 1 }:Lg) _ _)
  ·exact h1.mono (by omega)
 ·exact .refl _ _
theorem put1_near (L:Lg) (D:Dk) (m:Nat):Near D (L.put1 D m) 1:=by
 unfold Lg.put1
 split
 ·exact write_near _ _ _ _
 ·exact .refl _ _
theorem puts_near (L:Lg):∀ (k m:Nat) (D:Dk),Near D (L.puts k m D).1 k
 | 0,m,D=>.refl _ _
 | k+1,m,D=>by
   rw [Lg.puts]
   split
   ·have:=(put1_near L D m).trans (puts_near L k (m+1) _)
    exact this.mono (by omega)
   ·exact (put1_near L D m).mono (by omega)
theorem check3_near (L:Lg) (D:Dk):Near D (L.check3 D).1.D 4:=by
 have h1:=cut_near D 0 (1024*L.pages:Nat)
 have h2:Near D ((D.cutD 0 (1024*L.pages:Nat)).sync 0) 2:=h1.trans (sync_near _ _)
 have h3:Near D (({ L with D:=(D.cutD 0 (1024*L.pages:Nat)).sync 0 }:Lg).tell 0 L.pages).D 4:=h2.trans (tell_near ({ L with D:=(D.cutD 0 (1024*L.pages:Nat)).sync 0 }:Lg) _ _)
 unfold Lg.check3
 split
 ·exact h1.mono (by omega)
 ·split
  ·exact h2.mono (by omega)
  ·dsimp only
   split
   ·exact h3
   ·exact h3
theorem checkpoint_near (L:Lg):Near L.D L.checkpoint.1.D (L.pages+4):=by
 have h1:=puts_near L L.pages 0 L.D
 unfold Lg.checkpoint
 split
 ·exact .refl _ _
 ·split
  ·exact .refl _ _
  ·split
   ·exact h1.mono (by omega)
   ·exact h1.trans (check3_near L _)
structure Go (P P':Pl) (c:Nat):Prop where
 near:Near P.L.D P'.L.D c
 most:P'.most=P.most
 pins:∀ k,(∀ f∈P.ring,f.pins≤k)→∀ f∈P'.ring,f.pins≤k
section
variable {P P1 P2:Pl} {c d:Nat}
theorem Go.refl (P:Pl) (c:Nat):Go P P c:=⟨.refl _ _,rfl,fun _ h=>h⟩
theorem Go.mono (h:Go P P1 c) (hc:c≤d):Go P P1 d:=⟨h.near.mono hc,h.most,h.pins⟩
theorem Go.trans (h:Go P P1 c) (k:Go P1 P2 d):Go P P2 (c+d):=⟨h.near.trans k.near,k.most.trans h.most,fun m hm=>k.pins m (h.pins m hm)⟩
theorem dropN_pins {F:List Pf} {n k:Nat} (h:∀ f∈F,f.pins≤k):∀ f∈dropN n F,f.pins≤k:=fun f hf=>h f ((dropN_sub _ _).subset hf)
theorem spill_go (P:Pl) (f:Pf):Go P (P.spill f).1 1:=by
 unfold Pl.spill
 split
 ·split
  ·exact ⟨append_near _ _ _,rfl,fun k h=>dropN_pins h⟩
  ·exact ⟨append_near _ _ _,rfl,fun k h=>h⟩
 ·exact ⟨.refl _ _,rfl,fun k h=>dropN_pins h⟩
theorem room_go (P:Pl):Go P P.room.1 1:=by
 unfold Pl.room
 split
 ·exact .refl _ _
 ·split
  ·exact .refl _ _
  ·exact spill_go _ _
theorem fetch_go (P:Pl) (x:Nat):Go P (P.fetch x).1 0:=by
 unfold Pl.fetch
 split
 ·refine ⟨.refl _ _,rfl,fun k h f hf=>?_⟩
  rcases List.mem_append.1 hf with hf | hf
  ·exact h f hf
  ·rw [List.mem_singleton.1 hf];exact Nat.zero_le _
 ·exact .refl _ _
theorem get_go (P:Pl) (x:Int):Go P (P.get x).1 1:=by
 unfold Pl.get
 split
 ·split
  ·rename_i f hf
   refine ⟨.refl _ _,rfl,fun k h g hg=>?_⟩
   rcases List.mem_append.1 hg with hg | hg
   ·exact dropN_pins h g hg
   ·rw [List.mem_singleton.1 hg];exact h f (List.mem_of_find?_eq_some hf)
  ·split
   ·exact (room_go P).trans (fetch_go _ _)
   ·exact room_go P
 ·exact .refl _ _
theorem setLast_go (P:Pl) {f:Pf} (hf:f.pins=P.lastF.pins):Go P (P.setLast f) 0:=by
 refine ⟨.refl _ _,rfl,fun k h g hg=>?_⟩
 have hg2:g∈P.ring.dropLast++[f]:=hg
 rcases List.mem_append.1 hg2 with h1 | h1
 ·exact h g (List.dropLast_subset _ h1)
 ·rw [List.mem_singleton.1 h1,hf]
  unfold Pl.lastF
  cases hr:P.ring.getLast? with
  | none =>
    have:P.ring=[]:=List.getLast?_eq_none_iff.1 hr
    rw [this];exact Nat.zero_le _
  | some l =>
    rw [List.getLastD_eq_getLast?,hr]
    exact h l (List.mem_of_getLast? hr)
theorem put_go (P:Pl) (x:Int) (s:ByteArray):Go P (P.put x s).1 1:=by
 unfold Pl.put
 split
 ·have h:=(get_go P x).trans (setLast_go (P.get x).1 (f:={ (P.get x).1.lastF with s:=s,dirty:=true }) rfl)
  exact ⟨h.near,h.most,h.pins⟩
 ·exact get_go P x
theorem write_go (P:Pl) (x:Int) (s:ByteArray):Go P (P.write x s).1 1:=by
 unfold Pl.write
 split
 ·exact .refl _ _
 ·exact put_go P x s
theorem setFree_go (P:Pl) (n:Nat):Go P (P.setFree n).1 2:=by
 unfold Pl.setFree
 split
 ·split
  ·exact (get_go P 0).mono (by omega)
  ·split
   ·have h:=(get_go P 0).trans (put_go (P.get 0).1 0 (sealS 4 n (‹Pg›).2.2))
    exact ⟨h.near,h.most,h.pins⟩
   ·exact (get_go P 0).trans (put_go _ _ _)
 ·exact (get_go P 0).mono (by omega)
theorem grow_go (P:Pl):Go P P.grow.1 1:=by
 have h:=room_go P
 unfold Pl.grow
 split
 ·refine ⟨h.near,h.most,fun k hk f hf=>?_⟩
  rcases List.mem_append.1 hf with hf | hf
  ·exact h.pins k hk f hf
  ·rw [List.mem_singleton.1 hf];exact Nat.zero_le _
 ·exact h
theorem reuse_go (P:Pl):Go P P.reuse.1 4:=by
 have h:=get_go P P.free
 unfold Pl.reuse
 split
 ·split
  ·exact h.mono (by omega)
  ·split
   ·exact (h.trans (setFree_go _ _)).trans (put_go _ _ _)
   ·exact (h.trans (setFree_go _ _)).mono (by omega)
 ·exact h.mono (by omega)
theorem alloc_go (P:Pl):Go P P.alloc.1 4:=by
 unfold Pl.alloc
 split
 ·split
  ·exact .refl _ _
  ·exact (grow_go P).mono (by omega)
 ·exact reuse_go P
theorem freeP_go (P:Pl) (x:Int):Go P (P.freeP x).1 3:=by
 unfold Pl.freeP
 split
 ·exact .refl _ _
 ·split
  ·exact (put_go P _ _).trans (setFree_go _ _)
  ·exact (put_go P _ _).mono (by omega)
theorem clean_pins {F:List Pf} {n k:Nat} (h:∀ f∈F,f.pins≤k):∀ f∈cleanN n F,f.pins≤k:=fun f hf=>by
 obtain ⟨g,hg,rfl⟩:=List.mem_map.1 hf
 have:=h g hg
 split
 ·exact this
 ·exact this
theorem flush_go:∀ (ns:List Nat) (P:Pl),Go P (Pl.flush ns P).1 (4*ns.length)
 | [],P=>.refl _ _
 | [n],P=>by
   rw [Pl.flush]
   have h:Go P { P with L:=P.L.commit n (textN n P.ring) P.pages } (4*1):=⟨commit_nearL _ _ _ _,rfl,fun k h=>h⟩
   split
   ·exact ⟨h.near,rfl,fun k hk=>clean_pins hk⟩
   ·exact h
 | n :: m :: r,P=>by
   rw [Pl.flush]
   have h:Near P.L.D (P.L.append n (textN n P.ring)).D 4:=(append_near _ _ _).mono (by omega)
   split
   ·have h2:Go P { P with L:=P.L.append n (textN n P.ring),ring:=cleanN n P.ring } 4:=⟨h,rfl,fun k hk=>clean_pins hk⟩
    exact (h2.trans (flush_go (m :: r) _)).mono (by simp only [List.length_cons];omega)
   ·exact ⟨h.mono (by simp only [List.length_cons];omega),rfl,fun k hk=>hk⟩
theorem dirty_len {P:Pl} (ok:P.ok):(dirtyN P.ring).length≤64:=by
 have h1:(dirtyN P.ring).length=(P.ring.filter (·.dirty)).length:=by unfold dirtyN;rw [List.length_mergeSort,List.length_map]
 have h2:=List.length_filter_le (·.dirty) P.ring
 have h3:=ok.full
 have h4:=ok.most
 omega
theorem flushed_go (ok:P.ok):Go P P.flushed.1 260:=by
 have hd:=dirty_len ok
 unfold Pl.flushed
 split
 ·split
  ·exact ((get_go P 0).trans (flush_go [0] _)).mono (by simp)
  ·exact (get_go P 0).mono (by omega)
 ·exact (flush_go _ P).mono (by omega)
theorem told_go (R:Pl×Int):Go R.1 (Pl.told R).1 (R.1.L.pages+4):=by
 unfold Pl.told
 split
 ·split
  ·exact ⟨checkpoint_near _,rfl,fun k h=>h⟩
  ·exact ⟨.refl _ _,rfl,fun k h=>h⟩
 ·exact .refl _ _
theorem pin_go (P:Pl) (x:Int) {k:Nat} (h:∀ f∈P.ring,f.pins≤k):Near P.L.D (P.pin x).1.L.D 1∧(P.pin x).1.most=P.most∧∀ f∈(P.pin x).1.ring,f.pins≤k+1:=by
 have hg:=get_go P x
 unfold Pl.pin
 split
 ·refine ⟨hg.near,hg.most,fun f hf=>?_⟩
  have hf2:f∈(P.get x).1.ring.dropLast++[{ (P.get x).1.lastF with pins:=(P.get x).1.lastF.pins+1 }]:=hf
  rcases List.mem_append.1 hf2 with h1 | h1
  ·have:=hg.pins k h f (List.dropLast_subset _ h1);omega
  ·have h2:=(setLast_go (P.get x).1 (f:=(P.get x).1.lastF) rfl).pins k (hg.pins k h) (P.get x).1.lastF (by show _∈(P.get x).1.ring.dropLast++[_];simp)
   rw [List.mem_singleton.1 h1]
   show (P.get x).1.lastF.pins+1≤k+1
   omega
 ·exact ⟨hg.near,hg.most,fun f hf=>by have:=hg.pins k h f hf;omega⟩
theorem unpin_go (P:Pl) (x:Int):Go P (P.unpin x).1 0:=by
 unfold Pl.unpin
 split
 ·exact .refl _ _
 ·split
  ·exact .refl _ _
  ·refine ⟨.refl _ _,rfl,fun k h f hf=>?_⟩
   obtain ⟨g,hg,rfl⟩:=List.mem_map.1 hf
   have:=h g hg
   split
   ·show g.pins-1≤k;omega
   ·exact this
theorem rolled_go (P:Pl):Go P P.rolled 0:=⟨.refl _ _,rfl,fun k h f hf=>h f (List.mem_filter.1 hf).1⟩
theorem root_go (P:Pl):Go P P.root.1 1:=by
 have h:=get_go P 0
 unfold Pl.root
 split
 ·split
  ·exact ⟨h.near,h.most,h.pins⟩
  ·exact ⟨h.near,h.most,h.pins⟩
 ·exact h
theorem rollback_go (P:Pl):Go P P.rollback.1 1:=by
 unfold Pl.rollback
 split
 ·exact .refl _ _
 ·exact ((rolled_go P).trans (root_go _)).mono (by omega)
theorem check_go (P:Pl):Go P P.check.1 (P.L.pages+4):=by
 unfold Pl.check
 split
 ·exact ⟨checkpoint_near _,rfl,fun k h=>h⟩
 ·exact .refl _ _
end
end Go.Proofs.YtjihboddejaelaaGreat
namespace Go.Proofs.YtjihboddejaelaaGreat
open Go.RowKit
theorem InvB.more {a b:Nat} {L:Lg} {B:Bk} (h:InvB a L B) (hab:a≤b):InvB b L B:=⟨h.safe,⟨⟨h.kept.1.1,Nat.le_trans h.kept.1.2 hab⟩,h.kept.2⟩,h.few⟩
theorem PIn.more {a b:Nat} {P:Pl} {B N:Bk} (h:PIn a P B N) (hab:a≤b):PIn b P B N:=⟨h.ok,h.log.more hab,h.pages,h.ring,h.lies,h.same,h.le⟩
structure Live (P:Pl) (W k cw cc:Nat):Prop where
 book:∃ (B N:Bk) (fB:Nat),PIn W P B N∧Root N P.free∧Root B fB
 wt:wt P≤W
 most:8≤P.most
 pins:∀ f∈P.ring,f.pins≤k
 up:P.L.D.down=false
 waits:P.L.D.waits.length≤cw
 count:P.L.D.count≤cc
structure Lost2 (D:Dk) (W cw cc:Nat):Prop where
 ok:D.ok
 down:D.down=true
 count:D.count≤cc
 waits:D.waits.length≤cw+100000
 lost:∃ (B C:Bk) (fB fC:Nat),LostB W D B C∧Root B fB∧Root C fC∧B.q≤65536∧C.q≤65536
structure After (P:Pl) (W k cw cc:Nat):Prop where
 live:P.L.D.down=false→Live P W k cw cc
 lost:P.L.D.down=true→Lost2 P.L.D W cw cc
section
variable {P P':Pl} {W W' k k' c cw cc cw' cc':Nat} {B N:Bk} {fB:Nat}
theorem Live.more (h:Live P W k cw cc) (h1:W≤W') (h2:k≤k') (h3:cw≤cw') (h4:cc≤cc'):Live P W' k' cw' cc':=by
 obtain ⟨B,N,fB,a,b,d⟩:=h.book
 exact ⟨⟨B,N,fB,a.more h1,b,d⟩,Nat.le_trans h.wt h1,h.most,fun f hf=>Nat.le_trans (h.pins f hf) h2,h.up,Nat.le_trans h.waits h3,Nat.le_trans h.count h4⟩
theorem Live.after (h:Live P W k cw cc):After P W k cw cc:=⟨fun _=>h,fun h2=>by rw [h.up] at h2;cases h2⟩
theorem pin_few (h:PIn W P B N):B.q≤65536∧N.q≤65536:=by
 have h1:=h.pages;have h2:=h.ok.few;have h3:=h.le
 omega
theorem after_of (hp:PIn W P' B N) (hr:P'.L.D.down=false→Root N P'.free) (rB:Root B fB) (hw:wt P'≤W) (hm:8≤P'.most) (hk:∀ f∈P'.ring,f.pins≤k) (h1:P'.L.D.down=false→P'.L.D.waits.length≤cw) (h2:P'.L.D.count≤cc) (h3:P'.L.D.waits.length≤cw+100000):After P' W k cw cc :=
 ⟨fun hd=>⟨⟨B,N,fB,hp,hr hd,rB⟩,hw,hm,hk,hd,h1 hd,h2⟩,fun hd=>⟨hp.ok.log.disk,hd,h2,h3,B,B,fB,fB,hp.log.lost hd B,rB,rB,(pin_few hp).1,(pin_few hp).1⟩⟩
theorem after_go (h:Live P W k cw cc) (g:Go P P' c) (hc:c≤300) (hb:∀ B N fB,PIn (W+5) P B N→Root N P.free→Root B fB→∃ N',PIn (W+5) P' B N'∧Root N' P'.free∧wt P'≤W+5):After P' (W+5) k (cw+300) (cc+71000):=by
 obtain ⟨B,N,fB,a,b,d⟩:=h.book
 obtain ⟨N',p1,p2,p3⟩:=hb B N fB (a.more (by omega)) b d
 exact after_of p1 (fun _=>p2) d p3 (by rw [g.most];exact h.most) (g.pins k h.pins) (fun _=>by have:=g.near.waits;have:=h.waits;omega) (by have:=g.near.count;have:=h.count;omega) (by have:=g.near.waits;have:=h.waits;omega)
theorem after_get (h:Live P W k cw cc) (hW:W≤40000) (x:Int):After (P.get x).1 (W+5) k (cw+300) (cc+71000) :=
 after_go h (get_go P x) (by omega) fun B N fB a b d=>by
  obtain ⟨g1,g2,g3⟩:=get_then a b (by have:=h.wt;omega) x
  exact ⟨N,g1,g2,by have:=h.wt;omega⟩
theorem after_write (h:Live P W k cw cc) (hW:W≤40000) (x:Int) (s:ByteArray):After (P.write x s).1 (W+5) k (cw+300) (cc+71000) :=
 after_go h (write_go P x s) (by omega) fun B N fB a b d=>by
  obtain ⟨N',g1,g2,g3⟩:=write_then a b (by have:=h.wt;omega) x s
  exact ⟨N',g1,g2,by have:=h.wt;omega⟩
theorem after_alloc (h:Live P W k cw cc) (hW:W≤40000):After P.alloc.1 (W+5) k (cw+300) (cc+71000) :=
 after_go h (alloc_go P) (by omega) fun B N fB a b d=>by
  obtain ⟨N',g1,g2,g3⟩:=alloc_then a b (by have:=h.wt;omega)
  exact ⟨N',g1,g2,by have:=h.wt;omega⟩
theorem after_free (h:Live P W k cw cc) (hW:W≤40000) (x:Int):After (P.freeP x).1 (W+5) k (cw+300) (cc+71000) :=
 after_go h (freeP_go P x) (by omega) fun B N fB a b d=>by
  obtain ⟨N',g1,g2,g3⟩:=freeP_then a b (by have:=h.wt;omega) x
  exact ⟨N',g1,g2,by have:=h.wt;omega⟩
theorem after_unpin (h:Live P W k cw cc) (hW:W≤40000) (x:Int):After (P.unpin x).1 (W+5) k (cw+300) (cc+71000) :=
 after_go h (unpin_go P x) (by omega) fun B N fB a b d=>by
  obtain ⟨N',g1,g2,g3⟩:=unpin_then a b x
  exact ⟨N',g1,g2,by have:=h.wt;omega⟩
theorem after_pin (h:Live P W k cw cc) (hW:W≤40000) (x:Int):After (P.pin x).1 (W+5) (k+1) (cw+300) (cc+71000):=by
 obtain ⟨B,N,fB,a,b,d⟩:=h.book
 obtain ⟨n1,n2,n3⟩:=pin_go P x h.pins
 obtain ⟨N',g1,g2,g3⟩:=pin_then (a.more (show W≤W+5 by omega)) b (by have:=h.wt;omega) x
 exact after_of g1 (fun _=>g2) d (by have:=h.wt;omega) (by rw [n2];exact h.most) n3 (fun _=>by have:=n1.waits;have:=h.waits;omega) (by have:=n1.count;have:=h.count;omega) (by have:=n1.waits;have:=h.waits;omega)
theorem get_clean (h:PIn W P B N) (hq:1≤N.q) (hd:P.L.D.down=false) (hm:8≤P.most) (hp:∀ f∈P.ring,f.pins=0∧f.dirty=false):(P.get 0).2=0:=by
 have hpg:=h.pages
 unfold Pl.get
 rw [if_pos ⟨Int.le_refl 0,by omega⟩]
 cases hf:findN 0 P.ring with
 | some f=>rfl
 | none =>
   have hr:P.room.2=0∧P.room.1.L=P.L:=by
    unfold Pl.room
    by_cases hl:P.ring.length<P.most
    ·rw [if_pos hl];exact ⟨rfl,rfl⟩
    ·rw [if_neg hl]
     cases hi:idle P.ring with
     | none =>
       exfalso
       cases hrr:P.ring with
       | nil=>rw [hrr] at hl;simp at hl;omega
       | cons f r =>
         have h1:=List.find?_eq_none.1 hi f (by rw [hrr];exact List.mem_cons_self ..)
         rw [(hp f (by rw [hrr];exact List.mem_cons_self ..)).1] at h1
         exact h1 rfl
     | some f =>
       have hmem:=List.mem_of_find?_eq_some hi
       have e:P.spill f=({ P with ring:=dropN f.n P.ring },0):=by unfold Pl.spill;rw [(hp f hmem).2];rfl
       show (P.spill f).2=0∧(P.spill f).1.L=P.L
       rw [e];exact ⟨rfl,rfl⟩
   have hl:=h.lies 0 (by omega) fun f hf2 hn=>(hp f hf2).2
   have hrd:=((reads_b h.log.safe (n:=0) (by omega) hl).1 hd).1
   show (if P.room.2=0 then P.room.1.fetch (0:Int).toNat else P.room).2=0
   rw [if_pos hr.1]
   unfold Pl.fetch
   rw [hr.2,show (((0:Int).toNat:Nat):Int)=0 from rfl]
   rw [if_pos (show P.L.rw.readE 0=0 from hrd)]
theorem after_rollback (h:Live P W k cw cc) (hW:W≤40000):After P.rollback.1 (W+5) k (cw+300) (cc+71000):=by
 obtain ⟨B,N,fB,a,b,d⟩:=h.book
 have hw:=h.wt
 by_cases ha:P.ring.any (fun f=>decide (0<f.pins))=true
 ·have e:P.rollback=(P,6):=if_pos ha
  rw [e]
  exact (h.more (by omega) (Nat.le_refl _) (by omega) (by omega)).after
 ·obtain ⟨M,m1,m2,m3,m4,_⟩:=rollback_then (a.more (show W≤W+5 by omega)) b d (by omega)
  have g:=rollback_go P
  refine after_of m1 (fun hd=>?_) d (by omega) (by rw [g.most];exact h.most) (g.pins k h.pins) (fun _=>by have:=g.near.waits;have:=h.waits;omega) (by have:=g.near.count;have:=h.count;omega) (by have:=g.near.waits;have:=h.waits;omega)
  have hp2:∀ x∈P.ring,x.pins=0:=by simpa using ha
  obtain ⟨r1,r2⟩:=rolled_then a
  have hc:(P.rolled.get 0).2=0:=get_clean r1 d.pos h.up (by show 8≤P.most;exact h.most) fun f hf=>by
   obtain ⟨hf1,hf2⟩:=List.mem_filter.1 hf
   refine ⟨hp2 f hf1, ?_⟩
   cases hdd:f.dirty
   ·rfl
   ·have:=(a.ring f hf1).2 hdd
    simp [this] at hf2
  have e:P.rollback=P.rolled.root:=if_neg ha
  refine m3 ?_
  rw [e]
  have ht:=(get_textI r1 (by omega) hc).2.2
  rw [show (0:Int).toNat=0 from rfl,d.text] at ht
  unfold Pl.root
  rw [if_pos hc,ht,open_root d.le]
theorem tell_dry {L:Lg} (hs:L.slot<2) {f p:Nat} (hw:∀ c∈L.D.waits,c.file=1) (he:L.tellE f p=0):(L.tell f p).D.waits=[]:=by
 have h1:¬ L.D.stops:=fun h=>by rw [show L.tellE f p=2 from if_pos h] at he;cases he
 have h2:¬ (L.tellD f p).stops:=fun h=>by
  have e:L.tellE f p=(L.tellD f p).turnE:=if_neg h1
  rw [e,show (L.tellD f p).turnE=2 from if_pos h] at he;cases he
 have e:L.tell f p={ L with D:=(L.tellD f p).sync 1,slot:=1-L.slot,number:=L.number % 3+1,kept:=f,pages:=p }:=(if_neg h1).trans (if_neg h2)
 rw [e]
 have e2:(L.tellD f p).sync 1=(L.tellD f p).syncT 1:=by
  unfold Dk.sync
  rw [if_pos (by decide),if_neg h2];rfl
 show ((L.tellD f p).sync 1).waits=[]
 rw [e2]
 show (L.tellD f p).waits.filter (fun c=>decide (c.file≠1))=[]
 refine List.filter_eq_nil_iff.2 fun c hc=>?_
 have:c.file=1:=by
  rw [tellD_eq hs] at hc
  rcases (change_lasts L.D (tellCh L f p)).2.2 with h3 | h3
  ·rw [h3] at hc;exact hw c hc
  ·rw [h3] at hc
   rcases List.mem_append.1 hc with hc | hc
   ·exact hw c hc
   ·rw [List.mem_singleton.1 hc];rfl
 simp [this]
theorem check3_dry {L:Lg} (hs:L.slot<2) {D:Dk} (hok:D.ok) (he:(L.check3 D).2=0):(L.check3 D).1.D.waits=[]:=by
 unfold Lg.check3 at he ⊢
 by_cases h1:D.cutE 0 (1024*L.pages:Nat)≠0
 ·rw [if_pos h1] at he;exact absurd he h1
 ·rw [if_neg h1] at he ⊢
  by_cases h2:(D.cutD 0 (1024*L.pages:Nat)).stops
  ·rw [if_pos h2] at he;cases he
  ·rw [if_neg h2] at he ⊢
   dsimp only at he ⊢
   by_cases h3:({ L with D:=(D.cutD 0 (1024*L.pages:Nat)).sync 0 }:Lg).tellE 0 L.pages=0
   ·rw [if_pos h3]
    refine tell_dry (L:={ L with D:=(D.cutD 0 (1024*L.pages:Nat)).sync 0 }) hs (fun c hc=>?_) h3
    have hok2:=Dk.sync_ok (Dk.cut_ok hok 0 (1024*L.pages:Nat)) 0
    have hlt:=(hok2.waits c hc).1
    have e2:(D.cutD 0 (1024*L.pages:Nat)).sync 0=(D.cutD 0 (1024*L.pages:Nat)).syncT 0:=by
     unfold Dk.sync
     rw [if_pos (by decide),if_neg h2];rfl
    have hc2:c∈((D.cutD 0 (1024*L.pages:Nat)).sync 0).waits:=hc
    rw [e2] at hc2
    have h0:c.file≠0:=by
     have:=(List.mem_filter.1 hc2).2
     simpa using this
    omega
   ·rw [if_neg h3] at he;exact absurd he h3
theorem checkpoint_waits {L:Lg} (ok:L.ok) (he:L.checkpoint.2=0):L.checkpoint.1.D.waits.length≤L.D.waits.length:=by
 unfold Lg.checkpoint at he ⊢
 by_cases h1:L.fs.length≠L.kept
 ·rw [if_pos h1] at he;cases he
 ·rw [if_neg h1] at he ⊢
  by_cases h2:L.kept=0
  ·rw [if_pos h2];exact Nat.le_refl _
  ·rw [if_neg h2] at he ⊢
   by_cases h3:(L.puts L.pages 0 L.D).2≠0
   ·rw [if_pos h3] at he;exact absurd he h3
   ·rw [if_neg h3] at he ⊢
    rw [check3_dry ok.slot (puts_ok L L.pages 0 L.D ok.disk).1 he]
    exact Nat.zero_le _
theorem after_check (h:Live P W k cw cc) (hW:W≤40000):After P.check.1 (W+5) k (cw+300) (cc+71000):=by
 obtain ⟨B,N,fB,a,b,d⟩:=h.book
 have hw:=h.wt
 have g:=check_go P
 have hpl:P.L.pages≤65536:=by have:=a.log.kept.1.1;have:=a.log.few;omega
 obtain ⟨c1,c2⟩:=check_then (a.more (show W≤W+5 by omega)) b
 have hct:P.check.1.L.D.count≤cc+71000:=by have:=g.near.count;have:=h.count;omega
 by_cases hE:P.check.2=0∨P.check.2=11
 ·obtain ⟨C,p1,p2,p3,p4⟩:=c1 hE
  have hq:P.check.1.L.D.down=false→P.check.1.L.D.waits.length≤cw+300:=fun _=>by
   have hwt:=h.waits
   unfold Pl.check at hE ⊢
   by_cases ht:P.turned=[]
   ·rw [if_pos ht] at hE ⊢
    rcases hE with hE | hE
    ·have:=checkpoint_waits a.ok.log hE
     show P.L.checkpoint.1.D.waits.length≤_;omega
    ·have e:P.L.checkpoint=(P.L,11):=by
      have hne:=check_eleven a.ok.log hpl hE
      exact if_pos hne
     show P.L.checkpoint.1.D.waits.length≤_
     rw [e]
     show P.L.D.waits.length≤_;omega
   ·rw [if_neg ht];show P.L.D.waits.length≤_;omega
  obtain ⟨fC,rC⟩:∃ fC,Root C fC:=by
   rcases p4 with e | e
   ·exact ⟨fB,e ▸ d⟩
   ·exact ⟨P.free,e ▸ b⟩
  exact after_of p1 (fun _=>p2) rC (by omega) (by rw [g.most];exact h.most) (g.pins k h.pins) hq hct (by have:=g.near.waits;have:=h.waits;omega)
 ·obtain ⟨_,l1⟩:=c2 hE
  exact ⟨fun hd=>(by rw [l1.1] at hd;cases hd),fun hd=>⟨g.near.ok a.ok.log.disk,hd,hct,by have:=g.near.waits;have:=h.waits;omega,N,N,P.free,P.free,l1,b,b,(pin_few a).2,(pin_few a).2⟩⟩
theorem commit_up_waits (a:PIn W P B N) (b:Root N P.free) (hw:wt P≤50000) (hm2:wt P+1≤W) (hup:P.commit.1.L.D.down=false):P.commit.1.L.D.waits.length≤P.L.D.waits.length+260:=by
 have g:=(flushed_go a.ok).near.waits
 have hc:=commit_flushed P
 rw [hc] at hup ⊢
 by_cases ht:P.turned=[]
 ·rw [if_pos ht];exact Nat.le_add_right ..
 ·rw [if_neg ht] at hup ⊢
  obtain ⟨f1,f2⟩:=flushed_then a hw hm2 b.pos
  generalize hR:P.flushed=R at *
  unfold Pl.told at hup ⊢
  by_cases hE:R.2=0
  ·obtain ⟨j1,j2,j3,jk,j4,j5⟩:=f1 hE
   rw [if_pos hE] at hup ⊢
   by_cases hk:1000≤R.1.L.fs.length
   ·rw [if_pos hk] at hup ⊢
    by_cases hz:R.1.L.checkpoint.2=0
    ·have:=checkpoint_waits j1.ok.log hz
     show R.1.L.checkpoint.1.D.waits.length≤_
     omega
    ·exfalso
     have h11:R.1.L.checkpoint.2≠11:=fun h3=>check_eleven j1.ok.log (by have:=j1.log.kept.1.1;have:=j1.log.few;omega) h3 jk.symm
     obtain ⟨_,l2⟩:=(check_b j1.log).2 (by rintro (x | x);exact hz x;exact h11 x)
     have hup2:R.1.L.checkpoint.1.D.down=false:=hup
     rw [l2.1] at hup2;cases hup2
   ·rw [if_neg hk];exact g
  ·rw [if_neg hE];exact g
theorem commit_go (ok:P.ok) (hpl:P.flushed.2=0→P.flushed.1.L.pages≤65536):Go P P.commit.1 66000:=by
 rw [commit_flushed]
 split
 ·exact .refl _ _
 ·have h1:=flushed_go ok
  by_cases hE:P.flushed.2=0
  ·have h2:=told_go P.flushed
   have h3:=hpl hE
   exact (h1.trans h2).mono (by omega)
  ·have e:Pl.told P.flushed=P.flushed:=if_neg hE
   rw [e];exact h1.mono (by omega)
end
theorem after_commit {P:Pl} {W k cw cc:Nat} (h:Live P W k cw cc) (hW:W≤40000):After P.commit.1 (W+5) k (cw+300) (cc+71000)∧(P.commit.2=0→P.turned≠[]→P.commit.1.L.D.down=false→wt P.commit.1≤1000):=by
 obtain ⟨B,N,fB,a,b,d⟩:=h.book
 have hw:=h.wt
 have a2:=a.more (show W≤W+5 by omega)
 obtain ⟨c1,c2⟩:=commit_then a2 b (by omega) (by omega)
 have hfp:P.flushed.2=0→P.flushed.1.L.pages≤65536:=fun hE=>by
  obtain ⟨f1,_⟩:=flushed_then a2 (by omega) (by omega) b.pos
  have j1:=(f1 hE).1
  have:=j1.log.kept.1.1;have:=j1.log.few;omega
 have g:=commit_go a.ok hfp
 have hct:P.commit.1.L.D.count≤cc+71000:=by have:=g.near.count;have:=h.count;omega
 have hwt:P.commit.1.L.D.down=false→P.commit.1.L.D.waits.length≤cw+300:=fun hd=>by
  have:=commit_up_waits a2 b (by omega) (by omega) hd
  have:=h.waits;omega
 have hmost:8≤P.commit.1.most:=by rw [g.most];exact h.most
 have lostA:∀ X Y fX fY,LostB (W+5) P.commit.1.L.D X Y→Root X fX→Root Y fY→X.q≤65536→Y.q≤65536→After P.commit.1 (W+5) k (cw+300) (cc+71000):=fun X Y fX fY hl r1 r2 q1 q2 =>
  ⟨fun hd=>(by rw [hl.1] at hd;cases hd),fun hd=>⟨g.near.ok a.ok.log.disk,hd,hct,by have:=g.near.waits;have:=h.waits;omega,X,Y,fX,fY,hl,r1,r2,q1,q2⟩⟩
 obtain ⟨q1,q2⟩:=pin_few a
 refine ⟨?_,fun hE ht _=>(c1 hE).2.2.2 ht⟩
 by_cases hE:P.commit.2=0
 ·obtain ⟨p1,p2,p3,_⟩:=c1 hE
  exact after_of p1 (fun _=>p2) b (by omega) hmost (g.pins k h.pins) hwt hct (by have:=g.near.waits;have:=h.waits;omega)
 ·rcases c2 hE with ⟨p1,p2,p3,_⟩ | ⟨_,l1⟩ | ⟨_,l1⟩
  ·exact after_of p1 (fun _=>p2) d (by omega) hmost (g.pins k h.pins) hwt hct (by have:=g.near.waits;have:=h.waits;omega)
  ·exact lostA B N fB P.free l1 d b q1 q2
  ·exact lostA N N P.free P.free l1 b b q2 q2
end Go.Proofs.YtjihboddejaelaaGreat
namespace Go.Proofs.YtjihboddejaelaaGreat
open Go.RowKit
def Dn (D:Dk) (E:Int):Prop:=D.down=true→E=2
theorem up_dn {D:Dk} {E:Int} (h:D.down=false):Dn D E:=fun h2=>by rw [h] at h2;cases h2
theorem write_dn {D:Dk} (h:D.down=false) (f a:Int) (s:ByteArray):Dn (D.write f a s) (D.writeE f a s):=fun hd=>by
 unfold Dk.write at hd
 unfold Dk.writeE
 by_cases h1:fitsF f a s.size
 ·rw [if_pos h1] at hd ⊢
  by_cases h2:D.stops
  ·exact if_pos h2
  ·rw [change_up h2] at hd;cases hd
 ·rw [if_neg h1] at hd;rw [h] at hd;cases hd
theorem cut_dn {D:Dk} (h:D.down=false) (f a:Int):Dn (D.cutD f a) (D.cutE f a):=fun hd=>by
 unfold Dk.cutD at hd
 unfold Dk.cutE
 by_cases h1:fitsF f a 0
 ·rw [if_pos h1] at hd ⊢
  by_cases h2:D.stops
  ·exact if_pos h2
  ·rw [change_up h2] at hd;cases hd
 ·rw [if_neg h1] at hd;rw [h] at hd;cases hd
section
variable {L:Lg}
theorem append_dn (h:L.D.down=false) (n:Int) (t:ByteArray):Dn (L.append n t).D (L.appendE n t):=fun hd=>by
 unfold Lg.append at hd
 unfold Lg.appendE
 by_cases h1:L.fitsA n t
 ·by_cases h2:L.at_+1028≤67108864
  ·rw [if_pos ⟨h1,h2⟩] at hd
   rw [if_pos h1,if_pos h2]
   by_cases h3:L.D.stops
   ·exact if_pos h3
   ·have hd2:(L.D.write 1 L.at_ (bsOf (Fr.bytes ⟨n.toNat,t⟩))).down=true:=hd
    unfold Dk.write at hd2
    split at hd2
    ·rw [change_up h3] at hd2;cases hd2
    ·rw [h] at hd2;cases hd2
  ·rw [if_neg (fun x=>h2 x.2)] at hd;rw [h] at hd;cases hd
 ·rw [if_neg (fun x=>h1 x.1)] at hd;rw [h] at hd;cases hd
theorem tell_dn (f p:Nat):Dn (L.tell f p).D (L.tellE f p):=fun hd=>by
 by_cases h1:L.D.stops
 ·exact if_pos h1
 ·by_cases h2:(L.tellD f p).stops
  ·have e:L.tellE f p=(L.tellD f p).turnE:=if_neg h1
   rw [e];exact if_pos h2
  ·have e:L.tell f p={ L with D:=(L.tellD f p).sync 1,slot:=1-L.slot,number:=L.number % 3+1,kept:=f,pages:=p }:=(if_neg h1).trans (if_neg h2)
   rw [e] at hd
   have hd2:((L.tellD f p).sync 1).down=true:=hd
   have h3:((L.tellD f p).sync 1).down=false:=sync_up (f:=1) (by omega) h2
   rw [h3] at hd2;cases hd2
theorem commit_dnL (h:L.D.down=false) (n:Int) (t:ByteArray) (p:Int):Dn (L.commit n t p).D (L.commitE n t p):=fun hd=>by
 unfold Lg.commit at hd
 unfold Lg.commitE
 by_cases h0:1≤p∧p≤65536
 ·rw [if_pos h0] at hd ⊢
  by_cases h1:L.appendE n t=0
  ·rw [if_pos h1] at hd ⊢
   by_cases h2:(L.append n t).D.stops
   ·rw [if_pos h2]
   ·rw [if_neg h2] at hd ⊢
    exact tell_dn _ _ hd
  ·rw [if_neg h1] at hd ⊢
   exact append_dn h n t hd
 ·rw [if_neg h0] at hd;rw [h] at hd;cases hd
theorem put1_dn {D:Dk} (h:D.down=false) (m:Nat):Dn (L.put1 D m) (L.put1E D m):=by
 unfold Lg.put1 Lg.put1E
 split
 ·exact write_dn h _ _ _
 ·exact up_dn h
theorem puts_dn:∀ (k m:Nat) (D:Dk),D.down=false→Dn (L.puts k m D).1 (L.puts k m D).2
 | 0,m,D,h=>up_dn h
 | k+1,m,D,h=>by
   rw [Lg.puts]
   split
   ·rename_i h1
    refine puts_dn k (m+1) _ ?_
    cases hd:(L.put1 D m).down
    ·rfl
    ·have:=put1_dn (L:=L) h m hd
     rw [h1] at this;cases this
   ·exact put1_dn h m
theorem check3_dn {D:Dk} (h:D.down=false):Dn (L.check3 D).1.D (L.check3 D).2:=by
 unfold Lg.check3
 split
 ·exact cut_dn h _ _
 ·split
  ·exact fun _=>rfl
  ·dsimp only
   split
   ·rename_i h3
    intro hd
    have:=tell_dn (L:={ L with D:=(D.cutD 0 (1024*L.pages:Nat)).sync 0 }) 0 L.pages hd
    rw [h3] at this;cases this
   ·exact tell_dn _ _
theorem checkpoint_dn (h:L.D.down=false):Dn L.checkpoint.1.D L.checkpoint.2:=by
 have h1:=puts_dn (L:=L) L.pages 0 L.D h
 unfold Lg.checkpoint
 split
 ·exact up_dn h
 ·split
  ·exact up_dn h
  ·split
   ·exact h1
   ·rename_i h3
    refine check3_dn ?_
    cases hd:(L.puts L.pages 0 L.D).1.down
    ·rfl
    ·exact absurd (by rw [h1 hd];decide) h3
end
section
variable {P:Pl}
theorem spill_dn (h:P.L.D.down=false) (f:Pf):Dn (P.spill f).1.L.D (P.spill f).2:=by
 unfold Pl.spill
 split
 ·split
  ·rename_i h1
   exact fun hd=>by have:=append_dn h f.n f.s hd;rw [h1] at this;cases this
  ·exact append_dn h _ _
 ·exact up_dn h
theorem room_dn (h:P.L.D.down=false):Dn P.room.1.L.D P.room.2:=by
 unfold Pl.room
 split
 ·exact up_dn h
 ·split
  ·exact up_dn h
  ·exact spill_dn h _
theorem get_dn (h:P.L.D.down=false) (x:Int):Dn (P.get x).1.L.D (P.get x).2:=by
 unfold Pl.get
 split
 ·split
  ·exact up_dn h
  ·split
   ·rename_i h1
    exact up_dn (fetch_up (room_up h h1) _)
   ·exact room_dn h
 ·exact up_dn h
theorem put_dn (h:P.L.D.down=false) (x:Int) (s:ByteArray):Dn (P.put x s).1.L.D (P.put x s).2:=by
 have hg:=get_dn h x
 unfold Pl.put
 split
 ·rename_i h1
  exact fun hd=>by have:=hg hd;rw [h1] at this;cases this
 ·exact hg
theorem write_dnP (h:P.L.D.down=false) (x:Int) (s:ByteArray):Dn (P.write x s).1.L.D (P.write x s).2:=by
 unfold Pl.write
 split
 ·exact up_dn h
 ·exact put_dn h x s
theorem flush_dn:∀ (ns:List Nat) (P:Pl),P.L.D.down=false→Dn (Pl.flush ns P).1.L.D (Pl.flush ns P).2
 | [],P,h=>up_dn h
 | [n],P,h=>by
   have hc:=commit_dnL h n (textN n P.ring) P.pages
   rw [Pl.flush]
   split
   ·rename_i h1
    exact fun hd=>by have:=hc hd;rw [h1] at this;cases this
   ·exact hc
 | n :: m :: r,P,h=>by
   have hc:=append_dn h n (textN n P.ring)
   rw [Pl.flush]
   split
   ·rename_i h1
    refine flush_dn (m :: r) _ ?_
    exact append_upL h h1
   ·exact hc
theorem flushed_dn (h:P.L.D.down=false):Dn P.flushed.1.L.D P.flushed.2:=by
 unfold Pl.flushed
 split
 ·split
  ·rename_i h1
   exact flush_dn _ _ (get_up h h1)
  ·exact get_dn h 0
 ·exact flush_dn _ _ h
theorem commit_dn (h:P.L.D.down=false):Dn P.commit.1.L.D P.commit.2:=by
 rw [commit_flushed]
 split
 ·exact up_dn h
 ·have hf:=flushed_dn h
  generalize P.flushed=R at *
  unfold Pl.told
  split
  ·rename_i h1
   have hup:R.1.L.D.down=false:=by
    cases hd:R.1.L.D.down
    ·rfl
    ·have:=hf hd;rw [h1] at this;cases this
   split
   ·exact checkpoint_dn hup
   ·exact up_dn hup
  ·exact hf
end
structure Told (D:Dk) (W cc:Nat):Prop where
 ok:D.ok
 count:D.count≤cc
 told:∀ keep,∃ (B:Bk) (fB:Nat),TellsB W (D.crash keep).l0 (D.crash keep).l1 B∧Root B fB∧B.q≤65536
theorem After.told {P:Pl} {W k cw cc:Nat} (h:After P W k cw cc):Told P.L.D W cc:=by
 cases hd:P.L.D.down
 ·have hl:=h.live hd
  obtain ⟨B,N,fB,a,b,d⟩:=hl.book
  exact ⟨a.ok.log.disk,hl.count,fun keep=>⟨B,fB,safe_tellsB a.log keep,d,a.log.few⟩⟩
 ·obtain ⟨ok,_,hc,_,B,C,fB,fC,hl,r1,r2,q1,q2⟩:=h.lost hd
  refine ⟨ok,hc,fun keep=>?_⟩
  rcases hl.2 keep with h1 | h1
  ·exact ⟨B,fB,h1,r1,q1⟩
  ·exact ⟨C,fC,h1,r2,q2⟩
theorem After.waits {P:Pl} {W k cw cc:Nat} (h:After P W k cw cc):P.L.D.waits.length≤cw+100000:=by
 cases hd:P.L.D.down
 ·have:=(h.live hd).waits;omega
 ·exact (h.lost hd).waits
theorem tells_inv {D:Dk} {keep:List Int} {B:Bk} {W:Nat} (hok:D.ok) (h:TellsB W (D.crash keep).l0 (D.crash keep).l1 B) (hq:B.q≤65536) :
 InvB W (Lg.opened (D.crash keep)) B∧(Lg.opened (D.crash keep)).D=D.crash keep∧(Lg.opened (D.crash keep)).pages=B.q∧(Lg.opened (D.crash keep)).fs.length≤W∧∀ n,n<B.q→LiesQ (D.crash keep).l0 (Lg.opened (D.crash keep)).fs n (B.K n):=by
 obtain ⟨h1,h2,h3⟩:=h
 have S:=h3 (D.crash keep) (Dk.crash_ok hok keep) rfl rfl
 have e:Lg.opened (D.crash keep)=⟨D.crash keep,framesOf (D.crash keep).l1 (slotOf (D.crash keep).l1 (slotIx (D.crash keep).l1)).2.1,(slotOf (D.crash keep).l1 (slotIx (D.crash keep).l1)).2.1,(slotOf (D.crash keep).l1 (slotIx (D.crash keep).l1)).2.2,slotIx (D.crash keep).l1,(slotOf (D.crash keep).l1 (slotIx (D.crash keep).l1)).1⟩:=if_neg h1
 rw [e] at S ⊢
 refine ⟨⟨S, ?_,hq⟩,rfl,h2.1.1,h2.1.2,h2.2⟩
 show HoldsB W _ B ((framesOf _ _).take _) _
 rw [List.take_of_length_le (by rw [framesOf_len];exact Nat.le_refl _)]
 exact h2
theorem opened_live {D:Dk} {W cc:Nat} (h:Told D W cc) (keep:List Int) {most:Nat} (h8:8≤most) (h64:most≤64) :
 ∃ fB:Nat,fB≤2147483647∧(Lg.opened (D.crash keep)).ok∧(Lg.opened (D.crash keep)).pages≠0∧Pl.begun (D.crash keep)=Lg.opened (D.crash keep)∧(Lg.opened (D.crash keep)).D=D.crash keep ∧
   (Lg.opened (D.crash keep)).rw.readE 0=0∧(Lg.opened (D.crash keep)).rw.readS 0=sealS 4 fB []∧(Pl.opened (D.crash keep) most).2=0∧(Pl.opened (D.crash keep) most).1.L=Lg.opened (D.crash keep)∧Live (Pl.opened (D.crash keep) most).1 W 0 0 cc:=by
 obtain ⟨B,fB,ht,r,hq⟩:=h.told keep
 obtain ⟨i1,i2,i3,i4,i5⟩:=tells_inv h.ok ht hq
 have hp:(Lg.opened (D.crash keep)).pages≠0:=by rw [i3];have:=r.pos;omega
 have hb:Pl.begun (D.crash keep)=Lg.opened (D.crash keep):=if_neg hp
 have hup:(Lg.opened (D.crash keep)).D.down=false:=by rw [i2];rfl
 have hl0:(Lg.opened (D.crash keep)).D.l0=(D.crash keep).l0:=by rw [i2]
 rw [← hl0] at i5
 obtain ⟨e1,e2⟩:=(reads_b i1.safe (n:=0) (by omega) (i5 0 r.pos)).1 hup
 rw [r.text] at e2
 have e1:(Lg.opened (D.crash keep)).rw.readE 0=0:=e1
 have e2:(Lg.opened (D.crash keep)).rw.readS 0=sealS 4 fB []:=e2
 have eo:Pl.opened (D.crash keep) most=({ Pl.fresh (Lg.opened (D.crash keep)) most with free:=fB },0):=by
  unfold Pl.opened Pl.forgot
  rw [hb,if_pos e1,e2,open_root r.le]
 have hc:(Lg.opened (D.crash keep)).D.count≤cc:=by rw [i2];exact h.count
 have hw:(Lg.opened (D.crash keep)).D.waits.length≤0:=by rw [i2];exact Nat.le_refl _
 refine ⟨fB,r.le,i1.safe.ok,hp,hb,i2,e1,e2,by rw [eo],by rw [eo];rfl, ?_⟩
 rw [eo]
 refine ⟨⟨B,B,fB,⟨⟨i1.safe.ok,List.nodup_nil,fun f hf=>(by cases hf),fun f hf=>(by cases hf),h64,Nat.zero_le _,by show (Lg.opened (D.crash keep)).pages≤65536;omega,r.le,List.nodup_nil,fun x hx=>(by cases hx)⟩,i1,i3,fun f hf=>(by cases hf),fun n hn _=>i5 n hn,fun n hn _=>⟨hn,rfl⟩,Nat.le_refl _⟩,r,r⟩,i4,h8,fun f hf=>(by cases hf),hup,hw,hc⟩
theorem live_fail {P:Pl} {W k cw cc:Nat} (h:Live P W k cw cc) {n:Int} (hn:n≤9223372036854775807):Live { P with L:={ P.L with D:=P.L.D.fail n } } W k cw cc:=by
 obtain ⟨B,N,fB,a,b,d⟩:=h.book
 have hs:Safe ({ P.L with D:=P.L.D.fail n }:Lg):=safe_disk a.log.safe (Dk.fail_ok a.log.safe.ok.disk hn) rfl rfl rfl
 exact ⟨⟨B,N,fB,⟨⟨hs.ok,a.ok.names,a.ok.pages,a.ok.size,a.ok.most,a.ok.full,a.ok.few,a.ok.link,a.ok.turnd,a.ok.turns⟩,⟨hs,a.log.kept,a.log.few⟩,a.pages,a.ring,a.lies,a.same,a.le⟩,b,d⟩,h.wt,h.most,h.pins,h.up,h.waits,h.count⟩
theorem first_live {most:Nat} (h8:8≤most) (h64:most≤64):(Lg.opened Dk.new).ok∧((Lg.opened Dk.new).pages=0→(Lg.opened Dk.new).commitE 0 metaS 1=0)∧(Pl.begun Dk.new).D.down=false∧Fit (Pl.begun Dk.new).D 20000000 ∧
 (Pl.begun Dk.new).rw.readE 0=0∧(Pl.begun Dk.new).rw.readS 0=sealS 4 0 []∧(Pl.opened Dk.new most).2=0∧Live (Pl.opened Dk.new most).1 1000 0 100 100:=by
 have hi:=inv_start 0
 have hc:=opened_calm (D:=Dk.new) ⟨rfl,rfl⟩
 have hst:=start_eq 0
 have h0:Lg.opened Dk.new=Lg.opened (plainD [] [] (-1) 0):=rfl
 have hfit:Fit ((Lg.opened Dk.new).commit 0 metaS 1).D 29000000:=commit_fit (opened_fit (new_fit.less (by omega))) _ _ _
 have hnear:=commit_nearL (Lg.opened Dk.new) 0 metaS 1
 have hw0:(Lg.opened Dk.new).D.waits.length≤10∧(Lg.opened Dk.new).D.count≤10:=by
  rw [h0,hst]
  obtain ⟨_,_,a,_⟩:=anew_new 0
  refine ⟨by show (anewD (plainD [] [] (-1) 0)).waits.length≤10;rw [a];exact Nat.zero_le _, ?_⟩
  show (anewD (plainD [] [] (-1) 0)).count≤10
  unfold anewD
  have q1:=(cut_near (plainD [] [] (-1) 0) 1 0).count
  have q2:=(sync_near ((plainD [] [] (-1) 0).cutD 1 0) 1).count
  have q3:=(write_near (((plainD [] [] (-1) 0).cutD 1 0).sync 1) 1 0 (bsOf (markL++slotL 1 0 (((plainD [] [] (-1) 0).seen 0).length / 1024)))).count
  have q4:=(sync_near ((((plainD [] [] (-1) 0).cutD 1 0).sync 1).write 1 0 (bsOf (markL++slotL 1 0 (((plainD [] [] (-1) 0).seen 0).length / 1024)))) 1).count
  have q0:(plainD [] [] (-1) 0).count=0:=rfl
  omega
 obtain ⟨L,hL⟩:∃ L,Lg.opened (plainD [] [] (-1) 0)=L:=⟨_,rfl⟩
 unfold Pl.opened Pl.begun
 rw [h0] at hc hfit hnear hw0 ⊢
 rw [hL] at hi hc hst hfit hnear hw0 ⊢
 have f0:L.fs=[]:=by rw [hst]
 have k0:L.kept=0:=by rw [hst]
 have p0:L.pages=0:=by rw [hst]
 clear hst h0 hL
 have hq:InvB 1000 L ⟨0,fun _=>metaS⟩:=⟨hi.safe,⟨⟨p0,by rw [f0];simp⟩,fun n hn=>absurd hn (Nat.not_lt_zero _)⟩,by show 0≤65536;omega⟩
 have hF:HoldsB 1000 L.D.l0 firstB (L.fs++[⟨0,metaS⟩]) 1:=⟨⟨rfl,by rw [f0];simp⟩,fun n hn=>by
  have:n=0:=by have:n<1:=hn;omega
  subst this;exact liesQ_snoc⟩
 have hms:metaS.size=1024:=meta_len (l:=0) (by omega)
 obtain ⟨c1,c2⟩:=commit_b hq (by rw [f0];exact Nat.zero_le _) (n:=0) (p:=1) (by omega) ⟨by omega,by omega⟩ hms hF
 obtain ⟨z1,z2⟩:=calm_commitE hc (by rw [f0];exact Nat.zero_le _) (n:=0) (p:=1) (by omega) ⟨by omega,by omega⟩ hms hi.safe.ok.slot
 rw [show ((0:Nat):Int)=0 from rfl,show ((1:Nat):Int)=1 from rfl] at c1 z1 z2
 obtain ⟨a1,a0,a2,ak,a3⟩:=c1 z1
 rw [if_pos p0]
 refine ⟨hi.safe.ok,fun _=>z1,a3,hfit.less (by omega), ?_⟩
 have hnw:=hnear.waits
 have hnc:=hnear.count
 generalize L.commit 0 metaS 1=M at *
 have hl:∀ n,n<firstB.q→LiesQ M.D.l0 M.fs n (firstB.K n):=by rw [a2,a0];exact hF.2
 have r:Root firstB 0:=⟨Nat.le_refl _,rfl,by omega⟩
 obtain ⟨e1,e2⟩:=(reads_b a1.safe (n:=0) (by omega) (hl 0 r.pos)).1 a3
 rw [r.text] at e2
 have e1:M.rw.readE 0=0:=e1
 have e2:M.rw.readS 0=sealS 4 0 []:=e2
 have hfl:M.fs.length=1:=by rw [a2,f0];rfl
 have eo:Pl.forgot M most=({ Pl.fresh M most with free:=0 },0):=by
  unfold Pl.forgot
  rw [if_pos e1,e2,show openP (sealS 4 0 [])=some (4,0,[]) from open_root r.le]
 have hpg:M.pages=1:=a1.kept.1.1
 refine ⟨e1,e2,by rw [eo], ?_⟩
 rw [eo]
 exact ⟨⟨firstB,firstB,0,⟨⟨a1.safe.ok,List.nodup_nil,fun f hf=>(by cases hf),fun f hf=>(by cases hf),h64,Nat.zero_le _,by show M.pages≤65536;omega,by show (0:Nat)≤_;omega,List.nodup_nil,fun x hx=>(by cases hx)⟩,a1,hpg,fun f hf=>(by cases hf),fun n hn _=>hl n hn,fun n hn _=>⟨hn,rfl⟩,Nat.le_refl _⟩,r,r⟩,by show M.fs.length+0≤1000;omega,h8,fun f hf=>(by cases hf),a3,by show M.D.waits.length≤100;omega,by show M.D.count≤100;omega⟩
end Go.Proofs.YtjihboddejaelaaGreat
