/-
  The law DiskRuns (1): both disks side by side; num, sameInts, files.
-/
import Derived.Test.YtjihboddejaelaaGreatDiskR4q
import Derived.Deep.RegionHeld3
import Derived.Test.YtjihboddejaelaaGreatPr1
import Derived.IntWalk
import Derived.Maps.RangeWalk
import Derived.Maps.OwnSet
import Derived.Maps.OwnOps
import Derived.Maps.Ext
import Derived.Test.YtjihboddejaelaaGreatPr2
import Derived.ProofKit
import Derived.OpenShut
import Derived.ShutString
import Derived.ChangeOld
import Derived.SizedLaws
import Derived.Deep.Slices
import Derived.Lib.SmallJoins
set_option linter.unusedVariables false
set_option linter.unusedSimpArgs false
namespace Go.Proofs.YtjihboddejaelaaGreat
open Go.RowKit
open Go.BigFrame
structure Two (w0 w:World) (g r:Nat) (b c:List (Option Nat)) (D E:Dk):Prop where
 p:DP w b g D
 q:RP w c r E
 disj:Disj b c
 lowb:∀ k,some k∈b→w0.heap.size≤k
 lowc:∀ k,some k∈c→w0.heap.size≤k
 bel:Below w0.heap.size w0 w
section
variable {w0 w w':World} {g r:Nat} {b b' c c':List (Option Nat)} {D D' E E':Dk}
theorem Two.step (h:Two w0 w g r b c D E) (hb:Below w.heap.size w w'):Two w0 w' g r b c D E:=⟨h.p.below hb,h.q.below hb,h.disj,h.lowb,h.lowc,bel_step h.bel hb h.bel.size⟩
theorem Two.dp (h:Two w0 w g r b c D E) (hp:DP w' b' g D') (ht:Turn b b' w w'):Two w0 w' g r b' c D' E:=by
 obtain ⟨p,q,d,l1,l2,bl⟩:=h
 obtain ⟨v,rfl,hO⟩:=q
 exact ⟨hp,⟨v,rfl,hO.far ht d⟩,hO.disj ht d,ht.low l1 bl.size,l2,ht.bel bl l1 bl.size⟩
theorem Two.rp (h:Two w0 w g r b c D E) (hq:RP w' c' r E') (ht:Turn c c' w w'):Two w0 w' g r b c' D E':=by
 obtain ⟨p,q,d,l1,l2,bl⟩:=h
 obtain ⟨v0,v1,v2,v3,v4,rfl,hO⟩:=p
 exact ⟨⟨v0,v1,v2,v3,v4,rfl,hO.far ht d.symm⟩,hq,(hO.disj ht d.symm).symm,l1,ht.low l2 bl.size,ht.bel bl l2 bl.size⟩
end
set_option maxHeartbeats 400000 in
theorem law_numS (x:Int) (w:World):Calls Tryz.prog 20 #[.int .i64 x] w fun e w'=>e = .returned (.int .i64 x)∧w=w':=by
 go_enter Tryz.func20,Tryz.ntmps20
 go_wp2
 go_ret
 exact ⟨rfl,rfl⟩
def FilesPost (w:World) (e:Ending) (w':World):Prop:=e = .returned (.bool true)∧Below w.heap.size w w'
theorem readS_all {D:Dk} (hok:D.ok) {f:Nat} (hf:f<2) (hd:D.down=false):D.readS f 0 (D.seen f).length=bsOf (D.seen f)∧D.readE f 0 (D.seen f).length=0:=by
 have hl:=hok.seen f
 have hF:fitsF f 0 (D.seen f).length:=by unfold fitsF;omega
 refine ⟨(if_pos ⟨hF,hd,by simp⟩).trans (by simp), ?_⟩
 unfold Dk.readE
 rw [if_pos hF,if_neg (by rw [hd];decide),if_pos (by simp)]
set_option maxRecDepth 100000 in
set_option maxHeartbeats 3200000 in
theorem law_files (w0:World) (g r:Nat) (b c:List (Option Nat)) (D:Dk) (w:World) (h:Two w0 w g r b c D D) (hok:D.ok) (hws:D.waits.length≤1000000000) :
 Calls Tryz.prog 31 #[.pointer (some ⟨g,0,none⟩),.pointer (some ⟨r,0,none⟩)] w (FilesPost w):=by
 have HH:=Lib.hid h
 have OK:=Lib.hid hok
 have HWS:=Lib.hid hws
 clear h hok hws
 go_enter Tryz.func31,Tryz.ntmps31
 go_wp2_with fail
 go_loopw [5] (fun v5 wr=>∃ f:Nat,f≤2∧v5 = .int .i64 f∧Below w.heap.size w wr) (fun v5 _=>2-(intOf v5).toNat)
 case atStart=>exact ⟨0,by omega,rfl,Below.refl _ _⟩
 case round =>
  obtain ⟨f,hf,rfl,hb⟩:=hrel
  have HB:=Lib.hid hb
  have HT:=Lib.hid (HH.out.step hb)
  clear hb HH
  by_cases hf2:f<2
  ·have TS:=Lib.hid (fun w1 (h1:RP w1 c r D)=>refd_Seen r D c f w1 h1 OK.out hf2 HWS.out)
   have TZ:=Lib.hid (fun w1 (h1:DP w1 b g D)=>disk_Size g D b f w1 h1 OK.out)
   have LS:=OK.out.seen f
   obtain ⟨S,hS⟩:∃ S,bsOf (D.seen f)=S:=⟨_,rfl⟩
   have hSZ:S.size=(D.seen f).length:=by rw [← hS,bsOf_size]
   rw [hS] at TS
   have f0:(0:Int)≤(f:Int):=by omega
   have f1:(f:Int)<2:=by omega
   cases hd:D.down with
   | true =>
     have E1:D.sizeN f=0∧D.sizeE f=2:=⟨if_neg (fun h=>by rw [hd] at h;exact absurd h.2.2 (by decide)),by unfold Dk.sizeE;rw [if_pos ⟨f0,f1⟩,if_pos hd]⟩
     rw [E1.1,E1.2] at TZ
     have HD:=Lib.hid hd
     clear E1 hd hS hSZ
     go_wp2_with (first | (go_at_call 93;(with_reducible refine (TS.out _ HT.out.q).mono ?_);rintro e w1 ⟨rfl,hb1⟩;have HT1:=Lib.hid (HT.out.step hb1);have HB1:=Lib.hid (bel_step HB.out hb1 HB.out.size);obtain ⟨c4,_,_,cz⟩:=HT1.out.q.cells;rw [HD.out] at c4;clear hb1) | (go_at_call 94;(with_reducible refine (TZ.out _ HT1.out.p).mono ?_);rintro e w2 ⟨rfl,rfl⟩) | (go_at_call 20;refine (law_numS _ _).mono ?_;rintro e w1 ⟨rfl,rfl⟩))
     go_ret
     exact ⟨rfl,HB1.out⟩
   | false =>
     have E1:D.sizeN f=((D.seen f).length:Int)∧D.sizeE f=0:=⟨if_pos ⟨f0,f1,hd⟩,by unfold Dk.sizeE;rw [if_pos ⟨f0,f1⟩,if_neg (by rw [hd];decide)]⟩
     obtain ⟨r1,r2⟩:=readS_all OK.out hf2 hd
     have TR:=Lib.hid (fun w1 (h1:DP w1 b g D)=>disk_Read g D b f 0 (D.seen f).length w1 h1 OK.out)
     rw [r1,r2,hS,← hSZ] at TR
     rw [E1.1,E1.2,← hSZ] at TZ
     have HD:=Lib.hid hd
     have s1:(S.toList == S.toList)=true:=by simp
     clear E1 hd hS hSZ r1 r2
     go_wp2_with (first | (go_at_call 93;(with_reducible refine (TS.out _ HT.out.q).mono ?_);rintro e w1 ⟨rfl,hb1⟩;have HT1:=Lib.hid (HT.out.step hb1);have HB1:=Lib.hid (bel_step HB.out hb1 HB.out.size);obtain ⟨c4,_,_,cz⟩:=HT1.out.q.cells;rw [HD.out] at c4;clear hb1) | (go_at_call 94;(with_reducible refine (TZ.out _ HT1.out.p).mono ?_);rintro e w2 ⟨rfl,rfl⟩) | (go_at_call 95;(with_reducible refine (TR.out _ HT1.out.p).mono ?_);rintro e w2 ⟨rfl,rfl⟩) | (go_at_call 20;refine (law_numS _ _).mono ?_;rintro e w1 ⟨rfl,rfl⟩))
     go_roundw
     case rel=>exact ⟨f+1,by omega,by simp,HB1.out⟩
     case measure=>simp [intOf];omega
  ·obtain rfl:f=2:=by omega
   go_wp2_with fail
   go_ret
   exact ⟨rfl,HB.out⟩
end Go.Proofs.YtjihboddejaelaaGreat
namespace Go.Proofs.YtjihboddejaelaaGreat
open Go.RowKit
open Go.BigFrame
theorem infoInt:(Tryz.prog.info? 3).map (fun i=>(i.zero,i.size,i.bytes))=some (some (.int .i64 0),1,8):=by kernel_rfl
theorem zeroCellsInt:(Value.int .i64 0).cells.size=1:=by kernel_rfl
def intVs (ks:List Int):List Value:=ks.map (fun k=>.int .i64 k)
theorem intVs_one (ks:List Int):∀ u∈intVs ks,u.oneCell'=true:=fun u hu=>by
 obtain ⟨k,_,rfl⟩:=List.mem_map.1 hu;rfl
theorem intVs_get (ks:List Int) (j:Nat):(intVs ks)[j]? = (ks[j]?).map (fun k=>.int .i64 k):=by simp [intVs]
theorem IS.src {w:World} {A:Option Addr} {n c:Nat} {ks:List Int} (h:IS w A n ks) {e' tx:TypeId} {P:Program} (hk:P.underlying tx=some (.slice e')):Src P 1 tx (.slice A n c) n (intVs ks) w:=by
 rcases Nat.eq_zero_or_pos n with rfl | hn
 ·have hv:ks=[]:=List.eq_nil_of_length_eq_zero h.1
  subst hv
  cases A with
  | none=>exact Src.ofNil w hk c
  | some a=>exact Src.ofSlice w hk a 0 c [] rfl (fun j u hu=>by simp at hu) (fun u hu=>by simp at hu)
 ·obtain ⟨b,off,rfl,hb,hc⟩:=h.2 hn
  exact Src.ofSlice w hk _ n c _ (by simp [intVs,h.1]) (fun j u hu=>by
   rw [addr_add]
   rw [intVs_get] at hu
   obtain ⟨v,hv,rfl⟩:=Option.map_eq_some_iff.1 hu
   exact hc j v hv) (intVs_one ks)
theorem IS.of_own {w:World} {base:Nat} {e:TypeId} {v:Value} {n:Nat} {ks:List Int} (h:w.ownsRow base e 1 v n (intVs ks)):∃ A c,v = .slice A n c∧n≤c∧IS w A n ks∧blkOf A=v.ownBlock:=by
 have hl:ks.length=n:=by have:=h.1;simp [intVs] at this;exact this
 rcases h.2 with ⟨rfl,h0⟩ | ⟨g,cap,cur,rfl,hb,hgg,hnc,_⟩
 ·subst h0
  exact ⟨none,0,rfl,Nat.le_refl _,⟨hl,fun h=>absurd h (by omega)⟩,rfl⟩
 ·refine ⟨_,_,rfl,hnc,⟨hl,fun _=>⟨g,0,rfl,(Array.getElem?_eq_some_iff.1 hgg).1,fun i u hu=>?_⟩⟩,rfl⟩
  have:=h.cells (g:=g) rfl i (.int .i64 u) (by rw [intVs_get,hu];rfl)
  rw [addr_add] at this;exact this
set_option maxHeartbeats 1600000 in
theorem law_sameInts (A A':Option Addr) (n c c':Nat) (ks:List Int) (w:World) (h:IS w A n ks) (h':IS w A' n ks) (hn:n≤9223372036854775807) :
 Calls Tryz.prog 91 #[.slice A n c,.slice A' n c'] w fun e w'=>e = .returned (.bool true)∧Below w.heap.size w w':=by
 go_enter Tryz.func91,Tryz.ntmps91
 go_wp2_with fail
 go_loopw [5,13] (fun _ i wr=>∃ k:Nat,k≤n∧i = .int .i64 k∧Below w.heap.size w wr) (fun _ i _=>n-(intOf i).toNat)
 case atStart=>exact ⟨0,Nat.zero_le _,rfl,Below.refl _ _⟩
 case round =>
  obtain ⟨k,hk,rfl,hbel⟩:=hrel
  by_cases h1:k<n
  ·obtain ⟨b,off,rfl,hbl,hc⟩:=h.2 (by omega)
   obtain ⟨b',off',rfl,hbl',hc'⟩:=h'.2 (by omega)
   have hl:k<ks.length:=by rw [h.1];exact h1
   have a0:=hc k ks[k] (by simp [hl])
   have b0:=hc' k ks[k] (by simp [hl])
   obtain ⟨wc,wf⟩:=bcell hbel
   have z1:b<wr.heap.size:=by have:=hbel.size;omega
   have z2:b'<wr.heap.size:=by have:=hbel.size;omega
   have i1:(k:Int)<(n:Int):=by omega
   obtain ⟨x,hx⟩:∃ x,ks[k]=x:=⟨_,rfl⟩
   rw [hx] at a0 b0
   clear hc hc' hx hl
   go_wp2_with fail
   refine wp_region_cls (wr) (by kernel_rfl) (by kernel_rfl) (Cls.start _) ?_
   repeat
    first
     | go_big_quiet_skip
     | (go_big_quiet_want;(first | go_big_quiet_op | go_simp);first | go_big_quiet_on | (apply Exists.intro;refine ⟨fun w' hw'=>?_, ?_⟩;(·(first | (with_reducible exact rfl) | (fail) | (obtain ⟨hc,hf⟩:=hw'.facts;go_simp;first | done | (with_reducible exact rfl) | (with_reducible exact ⟨rfl,rfl⟩))));go_big_quiet_on))
   refine wpQuiet_nil ?_
   intro wq hq
   have hb2:=bel_step hbel hq hbel.size
   go_wp2_with fail
   go_roundw
   case rel=>exact ⟨k+1,by omega,by go_num,hb2⟩
   case measure=>simp [intOf];omega
  ·go_wp2
   go_ret
   exact ⟨rfl,hbel⟩
structure ActV where
 kind:Int
 f:Int
 at_:Int
 n:Int
 s:ByteArray
 t:ByteArray
 kA:Option Addr
 kn:Nat
 kc:Nat
 ks:List Int
 cA:Option Addr
 cn:Nat
 cc:Nat
def ActV.arr (a:ActV):Array Value:=#[.int .i64 a.kind,.int .i64 a.f,.int .i64 a.at_,.int .i64 a.n,.string a.s,.string a.t,.slice a.kA a.kn a.kc,.slice a.cA a.cn a.cc]
structure ActV.Ok (a:ActV) (w:World):Prop where
 keep:IS w a.kA a.kn a.ks
 lt:0<a.kn→∀ k,blkOf a.kA=some k→k<w.heap.size
 len:a.kn*8≤140737488355328
 s:a.s.size≤9223372036854775807
 n:a.n≤9223372036854775807
theorem ActV.Ok.below {a:ActV} {w w':World} (h:a.Ok w) (hb:Below w.heap.size w w'):a.Ok w':=⟨h.keep.keep hb,fun h0 k hk=>Nat.lt_of_lt_of_le (h.lt h0 k hk) hb.size,h.len,h.s,h.n⟩
theorem turn_len (D:Dk):D.turn.waits.length=D.waits.length∧D.turn.count≤D.count+1:=by
 unfold Dk.turn;split
 ·exact ⟨rfl,Nat.le_succ _⟩
 ·exact ⟨rfl,Nat.le_refl _⟩
theorem change_len2 (D:Dk) (c:Ch):(D.change c).waits.length≤D.waits.length+1∧(D.change c).count≤D.count+1:=by
 unfold Dk.change
 split
 ·have:=turn_len D;omega
 ·refine ⟨?_,(turn_len D).2⟩
  show (D.waits++[c]).length≤_
  rw [List.length_append];simp
theorem write_len (D:Dk) (f a:Int) (s:ByteArray):(D.write f a s).waits.length≤D.waits.length+1∧(D.write f a s).count≤D.count+1:=by
 unfold Dk.write;split
 ·exact change_len2 _ _
 ·omega
theorem cut_len (D:Dk) (f a:Int):(D.cutD f a).waits.length≤D.waits.length+1∧(D.cutD f a).count≤D.count+1:=by
 unfold Dk.cutD;split
 ·exact change_len2 _ _
 ·omega
theorem sync_len (D:Dk) (f:Int):(D.sync f).waits.length≤D.waits.length∧(D.sync f).count≤D.count+1:=by
 unfold Dk.sync;split
 ·split
  ·have:=turn_len D;omega
  ·exact ⟨List.length_filter_le _ _,(turn_len D).2⟩
 ·omega
theorem Has.arr {w:World} {g:Nat} {t:TypeId} {a:ActV} (h:Has w g t a.arr):w.cell? ⟨g,0,none⟩=some (.int .i64 a.kind)∧w.cell? ⟨g,1,none⟩=some (.int .i64 a.f)∧w.cell? ⟨g,2,none⟩=some (.int .i64 a.at_)∧w.cell? ⟨g,3,none⟩=some (.int .i64 a.n)∧w.cell? ⟨g,4,none⟩=some (.string a.s)∧w.cell? ⟨g,6,none⟩=some (.slice a.kA a.kn a.kc) :=
 ⟨h.cell 0,h.cell 1,h.cell 2,h.cell 3,h.cell 4,h.cell 6⟩
end Go.Proofs.YtjihboddejaelaaGreat
namespace Go.Proofs.YtjihboddejaelaaGreat
open Go.RowKit
def partL (l:List UInt8) (a n:Nat):List UInt8:=(l.drop a).take n
theorem partL_get (l:List UInt8) (a n i:Nat):(partL l a n)[i]? = if i<n then l[a+i]? else none:=by
 unfold partL
 rw [List.getElem?_take]
 split
 ·rw [List.getElem?_drop]
 ·rfl
theorem partL_len (l:List UInt8) (a n:Nat):(partL l a n).length=min n (l.length-a):=by
 unfold partL;rw [List.length_take,List.length_drop]
theorem zerosTo_get (l:List UInt8) (n i:Nat) (h:i<l.length):(zerosTo l n)[i]? = l[i]? := by
 unfold zerosTo;rw [List.getElem?_append_left h]
theorem putL_get (l:List UInt8) (a:Nat) (t:List UInt8) (i:Nat):(putL l a t)[i]? = if a≤i∧i<a+t.length then t[i-a]? else (zerosTo l (a+t.length))[i]? := by
 have hz:=zerosTo_len l (a+t.length)
 unfold putL
 have e1:((zerosTo l (a+t.length)).take a).length=a:=by rw [List.length_take,hz];omega
 by_cases h1:i<a
 ·rw [if_neg (by omega),List.append_assoc,List.getElem?_append_left (by rw [e1];exact h1),List.getElem?_take,if_pos h1]
 ·by_cases h2:i<a+t.length
  ·rw [if_pos ⟨by omega,h2⟩,List.append_assoc,List.getElem?_append_right (by rw [e1];omega),e1,List.getElem?_append_left (by omega)]
  ·rw [if_neg (by omega),List.getElem?_append_right (by rw [List.length_append,e1];omega),List.length_append,e1,List.getElem?_drop]
   congr 1;omega
theorem partL_put {l:List UInt8} {a:Nat} {t:List UInt8} {b n:Nat} (hl:b+n≤l.length) (h:b+n≤a∨a+t.length≤b):partL (putL l a t) b n=partL l b n:=by
 refine List.ext_getElem? fun i=>?_
 rw [partL_get,partL_get]
 split
 ·rw [putL_get,if_neg (by omega),zerosTo_get _ _ _ (by omega)]
 ·rfl
theorem partL_put_same (l:List UInt8) (a:Nat) (t:List UInt8):partL (putL l a t) a t.length=t:=by
 refine List.ext_getElem? fun i=>?_
 rw [partL_get]
 split
 ·rw [putL_get,if_pos ⟨by omega,by omega⟩];congr 1;omega
 ·rw [List.getElem?_eq_none (by omega)]
theorem partL_full {l:List UInt8} {a n:Nat} {t:List UInt8} (h:partL l a n=t) (hn:t.length=n) (h0:0<n):a+n≤l.length:=by
 have:=partL_len l a n
 rw [h] at this;omega
theorem partL_part (l:List UInt8) (a n b m:Nat) (h:b+m≤n):partL (partL l a n) b m=partL l (a+b) m:=by
 refine List.ext_getElem? fun i=>?_
 rw [partL_get (partL l a n),partL_get l (a+b)]
 split
 ·rw [partL_get,if_pos (by omega)];congr 1;omega
 ·rfl
structure Fr where
 n:Nat
 text:ByteArray
def Fr.bytes (f:Fr):List UInt8:=beK f.n 4++f.text.data.toList
theorem Fr.bytes_len (f:Fr) (h:f.text.size=1024):f.bytes.length=1028:=by
 unfold Fr.bytes;rw [List.length_append,beK_len,Array.length_toList,show f.text.data.size=f.text.size from rfl,h]
def lastAt:List Fr→Int→Nat
 | [],_=>0
 | f :: fs,x=>if lastAt fs x≠0 then lastAt fs x+1 else if (f.n:Int)=x then 1 else 0
theorem lastAt_le:∀ (fs:List Fr) (x:Int),lastAt fs x≤fs.length
 | [],_=>Nat.le_refl _
 | f :: fs,x=>by
   have:=lastAt_le fs x
   rw [lastAt,List.length_cons]
   split
   ·omega
   ·split <;> omega
theorem lastAt_snoc:∀ (fs:List Fr) (f:Fr) (x:Int),lastAt (fs++[f]) x=if (f.n:Int)=x then fs.length+1 else lastAt fs x
 | [],f,x=>by simp [lastAt]
 | g :: fs,f,x=>by
   rw [List.cons_append,lastAt,lastAt_snoc fs f x]
   by_cases h:(f.n:Int)=x
   ·simp [h]
   ·rw [if_neg h,if_neg h,lastAt]
theorem lastAt_get:∀ (fs:List Fr) (x:Int),lastAt fs x≠0→∃ f,fs[lastAt fs x-1]? = some f∧(f.n:Int)=x
 | [],x,h=>absurd rfl h
 | g :: fs,x,h=>by
   rw [lastAt] at h ⊢
   by_cases h2:lastAt fs x≠0
   ·rw [if_pos h2]
    obtain ⟨f,h3,h4⟩:=lastAt_get fs x h2
    refine ⟨f, ?_,h4⟩
    rw [show lastAt fs x+1-1=(lastAt fs x-1)+1 by omega,List.getElem?_cons_succ];exact h3
   ·rw [if_neg h2] at h ⊢
    by_cases h3:(g.n:Int)=x
    ·rw [if_pos h3];exact ⟨g,rfl,h3⟩
    ·rw [if_neg h3] at h;exact absurd rfl h
def slotL (n f p:Nat):List UInt8:=(beK n 4++beK f 4++beK p 4)++(beK n 4++beK f 4++beK p 4)
theorem slotL_len (n f p:Nat):(slotL n f p).length=24:=by simp [slotL,beK_len]
def markL:List UInt8:=[114,101,108,115,116,111,114,101,32,108,111,103,32,48,48,49]
def slotOf (l:List UInt8) (k:Nat):Nat×Nat×Nat :=
 if l.length<40+24*k then (0,0,0) else
 let t:=partL l (16+24*k) 24
 let n:=unK (t.take 4)
 let f:=unK (partL t 4 4)
 let p:=unK (partL t 8 4)
 if t.take 12≠t.drop 12∨¬ (1≤n∧n≤3)∨0<f∧l.length<64+1028*f then (0,0,0) else (n,f,p)
def slotIx (l:List UInt8):Nat :=
 if l.take 16≠markL∨(slotOf l 0).1=0∧(slotOf l 1).1=0 then 2
 else if (slotOf l 0).1=0∨(slotOf l 1).1≠0∧(slotOf l 1).1=(slotOf l 0).1 % 3+1 then 1 else 0
structure Lg where
 D:Dk
 fs:List Fr
 kept:Nat
 pages:Nat
 slot:Nat
 number:Nat
structure Lg.ok (L:Lg):Prop where
 disk:L.D.ok
 frames:∀ f∈L.fs,f.n<4294967296∧f.text.size=1024
 lies:∀ i f,L.fs[i]? = some f→partL (L.D.seen 1) (64+1028*i) 1028=f.bytes
 top:64+1028*L.fs.length≤67108864∨L.fs=[]
 kept:L.kept≤L.fs.length
 pages:L.pages<4294967296
 slot:L.slot<2
 number:L.number<4
theorem Lg.ok.len {L:Lg} (h:L.ok):L.fs.length≤65281:=by
 rcases h.top with h | h
 ·omega
 ·rw [h];show 0≤65281;omega
def Lg.readS (L:Lg) (n:Int):ByteArray :=
 if 0≤n∧n≤2147483647∧L.D.down=false then
  if lastAt L.fs n≠0 then ((L.fs[lastAt L.fs n-1]?).map (·.text)).getD ⟨#[]⟩
  else if n<((L.D.seen 0).length / 1024:Nat) then bsOf (partL (L.D.seen 0) (1024*n.toNat) 1024) else ⟨#[]⟩
 else ⟨#[]⟩
def Lg.readE (L:Lg) (n:Int):Int :=
 if 0≤n∧n≤2147483647 then
  if L.D.down=true then 2 else if lastAt L.fs n≠0 then 0 else if n<((L.D.seen 0).length / 1024:Nat) then 0 else 7
 else 1
def Lg.fitsA (L:Lg) (n:Int) (t:ByteArray):Prop:=0≤n∧n≤2147483647∧t.size=1024
instance (L:Lg) (n:Int) (t:ByteArray):Decidable (L.fitsA n t):=by unfold Lg.fitsA;infer_instance
def Lg.at_ (L:Lg):Nat:=64+1028*L.fs.length
def Lg.append (L:Lg) (n:Int) (t:ByteArray):Lg :=
 if L.fitsA n t∧L.at_+1028≤67108864 then
  { L with D:=L.D.write 1 L.at_ (bsOf (Fr.bytes ⟨n.toNat,t⟩)),fs:=if L.D.stops then L.fs else L.fs++[⟨n.toNat,t⟩] }
 else L
def Lg.appendE (L:Lg) (n:Int) (t:ByteArray):Int:=if L.fitsA n t then (if L.at_+1028≤67108864 then L.D.turnE else 8) else 1
def Lg.tellD (L:Lg) (f p:Nat):Dk:=L.D.write 1 (16+24*(1-L.slot):Nat) (bsOf (slotL (L.number % 3+1) f p))
def Lg.tell (L:Lg) (f p:Nat):Lg :=
 if L.D.stops then { L with D:=L.tellD f p }
 else if (L.tellD f p).stops then { L with D:=(L.tellD f p).sync 1 }
 else { L with D:=(L.tellD f p).sync 1,slot:=1-L.slot,number:=L.number % 3+1,kept:=f,pages:=p }
def Lg.tellE (L:Lg) (f p:Nat):Int:=if L.D.stops then 2 else (L.tellD f p).turnE
def Lg.commit (L:Lg) (n:Int) (t:ByteArray) (p:Int):Lg :=
 if 1≤p∧p≤65536 then
  if L.appendE n t=0 then
   if (L.append n t).D.stops then { L.append n t with D:=(L.append n t).D.sync 1 }
   else ({ L.append n t with D:=(L.append n t).D.sync 1 }:Lg).tell (L.append n t).fs.length p.toNat
  else L.append n t
 else L
def Lg.commitE (L:Lg) (n:Int) (t:ByteArray) (p:Int):Int :=
 if 1≤p∧p≤65536 then
  if L.appendE n t=0 then
   if (L.append n t).D.stops then 2
   else ({ L.append n t with D:=(L.append n t).D.sync 1 }:Lg).tellE (L.append n t).fs.length p.toNat
  else L.appendE n t
 else 1
def Lg.back (L:Lg):Lg:={ L with fs:=L.fs.take L.kept }
def Lg.put1 (L:Lg) (D:Dk) (m:Nat):Dk:=if lastAt L.fs m≠0 then D.write 0 (1024*m:Nat) (((L.fs[lastAt L.fs m-1]?).map (·.text)).getD ⟨#[]⟩) else D
def Lg.put1E (L:Lg) (D:Dk) (m:Nat):Int:=if lastAt L.fs m≠0 then D.writeE 0 (1024*m:Nat) (((L.fs[lastAt L.fs m-1]?).map (·.text)).getD ⟨#[]⟩) else 0
def Lg.puts (L:Lg):Nat→Nat→Dk→Dk×Int
 | 0,_,D=>(D,0)
 | k+1,m,D=>if L.put1E D m=0 then L.puts k (m+1) (L.put1 D m) else (L.put1 D m,L.put1E D m)
def Lg.check3 (L:Lg) (D:Dk):Lg×Int :=
 if D.cutE 0 (1024*L.pages:Nat)≠0 then ({ L with D:=D.cutD 0 (1024*L.pages:Nat) },D.cutE 0 (1024*L.pages:Nat))
 else if (D.cutD 0 (1024*L.pages:Nat)).stops then ({ L with D:=(D.cutD 0 (1024*L.pages:Nat)).sync 0 },2)
 else
  let M:Lg:={ L with D:=(D.cutD 0 (1024*L.pages:Nat)).sync 0 }
  if M.tellE 0 L.pages=0 then ({ M.tell 0 L.pages with fs:=[] },0) else (M.tell 0 L.pages,M.tellE 0 L.pages)
def Lg.checkpoint (L:Lg):Lg×Int :=
 if L.fs.length≠L.kept then (L,11)
 else if L.kept=0 then (L,0)
 else if (L.puts L.pages 0 L.D).2≠0 then ({ L with D:=(L.puts L.pages 0 L.D).1 },(L.puts L.pages 0 L.D).2)
 else L.check3 (L.puts L.pages 0 L.D).1
def frameAt (l:List UInt8) (k:Nat):Fr:=⟨unK (partL l (64+1028*k) 4),bsOf (partL l (64+1028*k+4) 1024)⟩
def framesOf (l:List UInt8) (f:Nat):List Fr:=(List.range f).map (frameAt l)
def anewD (D:Dk):Dk:=(((D.cutD 1 0).sync 1).write 1 0 (bsOf (markL++slotL 1 0 ((D.seen 0).length / 1024)))).sync 1
def Lg.opened (D:Dk):Lg :=
 if slotIx (D.seen 1)=2 then ⟨anewD D,[],0,(D.seen 0).length / 1024,0,1⟩
 else ⟨D,framesOf (D.seen 1) (slotOf (D.seen 1) (slotIx (D.seen 1))).2.1,(slotOf (D.seen 1) (slotIx (D.seen 1))).2.1,(slotOf (D.seen 1) (slotIx (D.seen 1))).2.2,slotIx (D.seen 1),(slotOf (D.seen 1) (slotIx (D.seen 1))).1⟩
end Go.Proofs.YtjihboddejaelaaGreat
namespace Go.Proofs.YtjihboddejaelaaGreat
open Go.RowKit
open Go.BigFrame
theorem or_add (i x y:Nat) (hx:x % 2 ^ i=0) (hy:y<2 ^ i) (hs:x+y<4611686018427387904):bits .or .i64 (x:Int) (y:Int)=((x+y:Nat):Int):=by
 have h1:(BitVec.ofInt 64 (x:Int)).toNat=x:=by
  rw [BitVec.ofInt_natCast,BitVec.toNat_ofNat];exact Nat.mod_eq_of_lt (by omega)
 have h2:(BitVec.ofInt 64 (y:Int)).toNat=y:=by
  rw [BitVec.ofInt_natCast,BitVec.toNat_ofNat];exact Nat.mod_eq_of_lt (by omega)
 show IntKind.i64.wrap ((BitVec.ofInt 64 (x:Int) ||| BitVec.ofInt 64 (y:Int)).toNat:Int)=_
 rw [BitVec.toNat_or,h1,h2,nat_join i x y hx hy]
 exact IntWalk.i64_in _ ⟨by omega,by omega⟩
theorem beK4 (x:Nat):beK x 4=[UInt8.ofNat (x / 16777216),UInt8.ofNat (x / 65536),UInt8.ofNat (x / 256),UInt8.ofNat x]:=by
 simp only [beK,List.nil_append,List.cons_append,Nat.div_div_eq_div_mul]
theorem u8s_beK4 (n:Nat):u8s (beK n 4)=[.int .u8 ((n:Int) / 16777216 % 256),.int .u8 ((n:Int) / 65536 % 256),.int .u8 ((n:Int) / 256 % 256),.int .u8 ((n:Int) % 256)]:=by
 rw [beK4]
 simp only [u8s,u8v,List.map_cons,List.map_nil,toNat_ofNat8]
 rw [show ((n / 16777216:Nat):Int)=(n:Int) / 16777216 by omega,show ((n / 65536:Nat):Int)=(n:Int) / 65536 by omega,show ((n / 256:Nat):Int)=(n:Int) / 256 by omega]
theorem conv_four (w:World) (n:Nat):(convert 39 9 (.slice (some ⟨w.heap.size,0,none⟩) 4 4)).run Tryz.prog (w.alloc (.cells #[.int .u8 ((n:Int) / 16777216 % 256),.int .u8 ((n:Int) / 65536 % 256),.int .u8 ((n:Int) / 256 % 256),.int .u8 ((n:Int) % 256)] 5)) = .ok (.string (bsOf (beK n 4))) (w.alloc (.cells #[.int .u8 ((n:Int) / 16777216 % 256),.int .u8 ((n:Int) / 65536 % 256),.int .u8 ((n:Int) / 256 % 256),.int .u8 ((n:Int) % 256)] 5)):=by
 have:=conv_BS (c:=4) (BS.of_has (Has.new w 5 (u8s (beK n 4)).toArray))
 rw [beK_len,u8s_beK4] at this
 exact this
set_option maxHeartbeats 400000 in
theorem wal_four (n:Nat) (hn:n≤4611686018427387904) (w:World):Calls Tryz.prog 173 #[.int .i64 n] w fun e w'=>e = .returned (.string (bsOf (beK n 4)))∧Below w.heap.size w w':=by
 have hcv:=conv_four w n
 obtain ⟨S,hS⟩:∃ S,bsOf (beK n 4)=S:=⟨_,rfl⟩
 rw [hS] at hcv ⊢
 go_enter Tryz.func173,Tryz.ntmps173
 go_wp2
 go_ret
 exact ⟨rfl,(Below.refl _ _).alloc (Nat.le_refl _) _⟩
theorem unK4 (a b c d:UInt8) (r:List UInt8):unK ((a :: b :: c :: d :: r).take 4)=a.toNat*16777216+b.toNat*65536+c.toNat*256+d.toNat:=by
 show unK [a,b,c,d]=_
 simp only [unK,List.foldl_cons,List.foldl_nil]
 omega
set_option maxRecDepth 100000 in
set_option maxHeartbeats 1600000 in
theorem wal_number (s:ByteArray) (h4:4≤s.size) (w:World):Calls Tryz.prog 114 #[.string s] w fun e w'=>e = .returned (.int .i64 (unK (s.data.toList.take 4):Nat))∧Below w.heap.size w w':=by
 have h0:0<s.size:=by omega
 have h1:1<s.size:=by omega
 have h2:2<s.size:=by omega
 have h3:3<s.size:=by omega
 have hl:s.data.toList=s[0] :: s[1] :: s[2] :: s[3] :: s.data.toList.drop 4:=by
  have e (i:Nat) (h:i<s.size):s.data.toList[i]'(by simpa using h)=s[i]:=by simp [ByteArray.getElem_eq_getElem_data]
  rw [← e 0 h0,← e 1 h1,← e 2 h2,← e 3 h3]
  rw [← List.drop_eq_getElem_cons,← List.drop_eq_getElem_cons,← List.drop_eq_getElem_cons,← List.drop_eq_getElem_cons];rfl
 have E:=Lib.hid (show unK (s.data.toList.take 4)=s[0].toNat*16777216+s[1].toNat*65536+s[2].toNat*256+s[3].toNat by rw [hl];exact unK4 _ _ _ _ _)
 clear hl
 rw [E.out]
 have b0:=byte_lt s[0]
 have b1:=byte_lt s[1]
 have b2:=byte_lt s[2]
 have b3:=byte_lt s[3]
 have O:=Lib.hid (show ∀ a b c d:Nat,a<256→b<256→c<256→d<256→bits .or .i64 (bits .or .i64 (bits .or .i64 ((a:Int)*16777216) ((b:Int)*65536)) ((c:Int)*256)) (d:Int)=((a*16777216+b*65536+c*256+d:Nat):Int) from fun a b c d ha hb hc hd=>by
  have e1:=or_add 24 (a*16777216) (b*65536) (by omega) (by omega) (by omega)
  have e2:=or_add 16 (a*16777216+b*65536) (c*256) (by omega) (by omega) (by omega)
  have e3:=or_add 8 (a*16777216+b*65536+c*256) d (by omega) (by omega) (by omega)
  rw [← e3,← e2,← e1]
  simp only [Int.natCast_mul];rfl)
 have i1:(1:Int)<(s.size:Int):=by omega
 have i2:(2:Int)<(s.size:Int):=by omega
 have i3:(3:Int)<(s.size:Int):=by omega
 go_enter Tryz.func114,Tryz.ntmps114
 go_wp2_with fail
 refine wp_region_cls (w) (by kernel_rfl) (by kernel_rfl) (Cls.start _) ?_
 repeat
  first
   | go_big_quiet_skip
   | (go_big_quiet_want;(first | go_big_quiet_op | go_simp);first | go_big_quiet_on | (apply Exists.intro;refine ⟨fun w' hw'=>?_, ?_⟩;(·(first | (with_reducible exact rfl) | (fail) | (obtain ⟨hc,hf⟩:=hw'.facts;go_simp;first | done | (with_reducible exact rfl) | (with_reducible exact ⟨rfl,rfl⟩))));go_big_quiet_on))
 refine wpQuiet_nil ?_
 intro wq hq
 go_wp2_with fail
 go_ret
 exact ⟨ret_int (O.out _ _ _ _ b0 b1 b2 b3),hq.bel⟩
set_option maxRecDepth 100000 in
set_option maxHeartbeats 1600000 in
theorem wal_slotText (n f p:Nat) (hn:n≤4611686018427387904) (hf:f≤4611686018427387904) (hp:p≤4611686018427387904) (w:World):Calls Tryz.prog 187 #[.int .i64 n,.int .i64 f,.int .i64 p] w fun e w'=>e = .returned (.string (bsOf (slotL n f p)))∧Below w.heap.size w w':=by
 have T1:=Lib.hid (wal_four n hn)
 have T2:=Lib.hid (wal_four f hf)
 have T3:=Lib.hid (wal_four p hp)
 have E:=Lib.hid (show bsOf (slotL n f p)=bsOf (beK n 4)++bsOf (beK f 4)++bsOf (beK p 4)++(bsOf (beK n 4)++bsOf (beK f 4)++bsOf (beK p 4)) by simp only [bsOf_append,slotL])
 rw [E.out]
 obtain ⟨s1,hs1⟩:∃ s,bsOf (beK n 4)=s:=⟨_,rfl⟩
 obtain ⟨s2,hs2⟩:∃ s,bsOf (beK f 4)=s:=⟨_,rfl⟩
 obtain ⟨s3,hs3⟩:∃ s,bsOf (beK p 4)=s:=⟨_,rfl⟩
 have z1:s1.size=4:=by rw [← hs1,bsOf_size,beK_len]
 have z2:s2.size=4:=by rw [← hs2,bsOf_size,beK_len]
 have z3:s3.size=4:=by rw [← hs3,bsOf_size,beK_len]
 simp only [hs1,hs2,hs3] at T1 T2 T3 ⊢
 clear E hs1 hs2 hs3
 go_enter Tryz.func187,Tryz.ntmps187
 go_wp2_with (first | (go_at_call 173;(with_reducible refine (T1.out _).mono ?_);rintro e w1 ⟨rfl,hb⟩;obtain ⟨hc,hf⟩:=bcell hb;have hz:=hb.size;(try simp at hz)) | (go_at_call 173;(with_reducible refine (T2.out _).mono ?_);rintro e w1 ⟨rfl,hb⟩;obtain ⟨hc,hf⟩:=bcell hb;have hz:=hb.size;(try simp at hz)) | (go_at_call 173;(with_reducible refine (T3.out _).mono ?_);rintro e w1 ⟨rfl,hb⟩;obtain ⟨hc,hf⟩:=bcell hb;have hz:=hb.size;(try simp at hz)))
 go_ret
 rename_i wa ha _ _ za wb hb2 _ _ zb
 exact ⟨rfl,bel_step (bel_step ha hb2 za) hb (Nat.le_trans za zb)⟩
end Go.Proofs.YtjihboddejaelaaGreat
namespace Go.Proofs.YtjihboddejaelaaGreat
open Go.RowKit
open Go.BigFrame
theorem extr_part (s:ByteArray) (a b:Nat):s.extract a b=bsOf (partL s.data.toList a (b-a)):=by
 rw [← bsOf_of (s.extract a b),Lib.extract_data]
 congr 1
theorem beK_unK:∀ (l:List UInt8) (k:Nat),l.length=k→beK (unK l) k=l:=by
 intro l k
 induction k generalizing l with
 | zero=>intro h;rw [List.eq_nil_of_length_eq_zero h];rfl
 | succ k ih =>
   intro h
   obtain ⟨r,b,rfl⟩:∃ r b,l=r++[b]:=⟨l.dropLast,l.getLast (by intro e;rw [e] at h;cases h),(List.dropLast_concat_getLast _).symm⟩
   have hb:=byte_lt b
   rw [unK_snoc,beK,show (256*unK r+b.toNat) / 256=unK r by omega,ih r (by simpa using h)]
   congr 2
   apply UInt8.toNat_inj.1
   rw [UInt8.toNat_ofNat'];omega
theorem partL_zero (l:List UInt8) (n:Nat):partL l 0 n=l.take n:=by unfold partL;rw [List.drop_zero]
theorem take12 {t:List UInt8} (ht:t.length=24):t.take 12=t.take 4++partL t 4 4++partL t 8 4:=by
 refine List.ext_getElem? fun i=>?_
 rw [List.getElem?_take]
 rcases Nat.lt_or_ge i 4 with h | h
 ·rw [if_pos (by omega),List.append_assoc,List.getElem?_append_left (by simp;omega),List.getElem?_take,if_pos h]
 ·rcases Nat.lt_or_ge i 8 with h2 | h2
  ·rw [if_pos (by omega),List.append_assoc,List.getElem?_append_right (by simp;omega),List.getElem?_append_left (by simp [partL_len];omega),partL_get,if_pos (by simp;omega)]
   congr 1;simp;omega
  ·rw [List.append_assoc,List.getElem?_append_right (by simp;omega),List.getElem?_append_right (by simp [partL_len];omega),partL_get]
   simp only [List.length_take,partL_len,ht]
   split
   ·rw [if_pos (by omega)];congr 1;omega
   ·rw [if_neg (by omega)]
theorem slotL_parts {t:List UInt8} (ht:t.length=24):t.take 12=t.drop 12↔t=slotL (unK (t.take 4)) (unK (partL t 4 4)) (unK (partL t 8 4)):=by
 have e:slotL (unK (t.take 4)) (unK (partL t 4 4)) (unK (partL t 8 4))=t.take 12++t.take 12:=by
  unfold slotL
  rw [beK_unK _ 4 (by simp;omega),beK_unK _ 4 (by simp [partL_len];omega),beK_unK _ 4 (by simp [partL_len];omega),← take12 ht]
 rw [e]
 constructor
 ·intro h
  conv=>lhs;rw [← List.take_append_drop 12 t,← h]
 ·intro h
  have:t.drop 12=(t.take 12++t.take 12).drop 12:=by rw [← h]
  rw [this,List.drop_append_of_le_length (by simp;omega),List.drop_of_length_le (by simp;omega),List.nil_append]
theorem slotOf_near {l:List UInt8} {k:Nat} (h:¬ l.length<40+24*k) {t:List UInt8} (ht:partL l (16+24*k) 24=t) {n f p:Nat} (hn:unK (t.take 4)=n) (hf:unK (partL t 4 4)=f) (hp:unK (partL t 8 4)=p) :
 slotOf l k=if t=slotL n f p∧1≤n∧n≤3∧(f=0∨64+1028*f≤l.length) then (n,f,p) else (0,0,0):=by
 have hl:t.length=24:=by rw [← ht,partL_len];omega
 have e:=slotL_parts hl
 unfold slotOf
 rw [if_neg h]
 simp only [ht,hn,hf,hp]
 rw [hn,hf,hp] at e
 by_cases hC:t=slotL n f p∧1≤n∧n≤3∧(f=0∨64+1028*f≤l.length)
 ·rw [if_pos hC,if_neg]
  rintro (h1 | h1 | h1)
  ·exact h1 (e.2 hC.1)
  ·exact h1 ⟨hC.2.1,hC.2.2.1⟩
  ·have:=hC.2.2.2;omega
 ·rw [if_neg hC,if_pos]
  by_cases h1:t.take 12=t.drop 12
  ·refine .inr ?_
   by_cases h2:1≤n∧n≤3
   ·refine .inr ?_
    by_cases h3:f=0∨64+1028*f≤l.length
    ·exact absurd ⟨e.1 h1,h2.1,h2.2,h3⟩ hC
    ·omega
   ·exact .inl h2
  ·exact .inl h1
theorem results_tmp4 {fn:Func} {t u v x:Tmp} (h:fn.results = #[.tmp t,.tmp u,.tmp v,.tmp x]) (tmps:Array Value) (P:Program) (w:World) :
 (results fn tmps).run P w = .ok (.tuple #[tmps.getD t undef,tmps.getD u undef,tmps.getD v undef,tmps.getD x undef]) w:=by
 simp [results,h]
def SlotIs (l:List UInt8) (k:Nat) (n f p:Nat) (b:Bool):Prop:=b=decide ((slotOf l k).1≠0)∧(b=true→slotOf l k=(n,f,p))
def SlotAtPost (w:World) (l:List UInt8) (k:Nat) (e:Ending) (w':World):Prop :=
 ∃ (n f p:Nat) (b:Bool),e = .returned (.tuple #[.int .i64 n,.int .i64 f,.int .i64 p,.bool b])∧SlotIs l k n f p b∧Below w.heap.size w w'
theorem SlotIs.mk {l:List UInt8} {k n f p:Nat} {b:Bool} {C:Prop} [Decidable C] (h:slotOf l k=if C then (n,f,p) else (0,0,0)) (hn:C→1≤n) (hb:b=true↔C):SlotIs l k n f p b:=by
 unfold SlotIs
 rw [h]
 by_cases hC:C
 ·have:=hn hC
  rw [if_pos hC,hb.2 hC]
  exact ⟨by simp;omega,fun _=>rfl⟩
 ·have hf:b=false:=by cases b with
   | true=>exact absurd (hb.1 rfl) hC
   | false=>rfl
  rw [if_neg hC,hf]
  exact ⟨by simp,fun h=>by cases h⟩
theorem slotOf_far {l:List UInt8} {k:Nat} (h:l.length<40+24*k):slotOf l k=(0,0,0):=if_pos h
set_option maxRecDepth 100000 in
set_option maxHeartbeats 1600000 in
theorem wal_slotAt (s:ByteArray) (k:Nat) (hk:k<2) (hs:s.size≤67108864) (w:World) :
 Calls Tryz.prog 183 #[.string s,.int .i64 k] w (SlotAtPost w s.data.toList k):=by
 by_cases h1:s.size<40+24*k
 ·have E:=Lib.hid (slotOf_far (l:=s.data.toList) (k:=k) (by simpa using h1))
  go_enter Tryz.func183,Tryz.ntmps183
  go_wp2_with fail
  ((try simp only [Exit.inBlock,Exit.then]);refine bodyPost_ret (results_tmp4 rfl _ _ _) rfl ?_)
  exact ⟨0,0,0,false,rfl,⟨by rw [E.out];rfl,fun h=>by cases h⟩,Below.refl _ _⟩
 ·obtain ⟨T,hT⟩:∃ T,s.extract (16+24*k) (40+24*k)=T:=⟨_,rfl⟩
  have hz:T.size=24:=by rw [← hT,ByteArray.size_extract];omega
  obtain ⟨T4,hT4⟩:∃ U,T.extract 4 24=U:=⟨_,rfl⟩
  obtain ⟨T8,hT8⟩:∃ U,T.extract 8 24=U:=⟨_,rfl⟩
  have hz4:T4.size=20:=by rw [← hT4,ByteArray.size_extract];omega
  have hz8:T8.size=16:=by rw [← hT8,ByteArray.size_extract];omega
  have N0:=Lib.hid (wal_number T (by omega))
  have N4:=Lib.hid (wal_number T4 (by omega))
  have N8:=Lib.hid (wal_number T8 (by omega))
  obtain ⟨n,hn⟩:∃ n,unK (T.data.toList.take 4)=n:=⟨_,rfl⟩
  obtain ⟨f,hf⟩:∃ n,unK (T4.data.toList.take 4)=n:=⟨_,rfl⟩
  obtain ⟨p,hp⟩:∃ n,unK (T8.data.toList.take 4)=n:=⟨_,rfl⟩
  have ln:n<4294967296:=by rw [← hn];exact unK_lt 4 _ (by simp;omega)
  have lf:f<4294967296:=by rw [← hf];exact unK_lt 4 _ (by simp;omega)
  have lp:p<4294967296:=by rw [← hp];exact unK_lt 4 _ (by simp;omega)
  have ST:=Lib.hid (wal_slotText n f p (by omega) (by omega) (by omega))
  obtain ⟨S,hS⟩:∃ S,bsOf (slotL n f p)=S:=⟨_,rfl⟩
  rw [hn] at N0;rw [hf] at N4;rw [hp] at N8;rw [hS] at ST
  have E:=Lib.hid (show slotOf s.data.toList k=if T.toList=S.toList∧1≤n∧n≤3∧(f=0∨64+1028*f≤s.size) then (n,f,p) else (0,0,0) by
   have hT2:T.data.toList=partL s.data.toList (16+24*k) 24:=by rw [← hT,extr_part,bsOf_data];congr 1;omega
   have hf2:unK (partL T.data.toList 4 4)=f:=by rw [← hf,← hT4,extr_part,bsOf_data];unfold partL;simp [List.take_take]
   have hp2:unK (partL T.data.toList 8 4)=p:=by rw [← hp,← hT8,extr_part,bsOf_data];unfold partL;simp [List.take_take]
   have:=slotOf_near (l:=s.data.toList) (k:=k) (by simpa using h1) hT2.symm hn hf2 hp2
   rw [this,Lib.toList_data,Lib.toList_data,← hS,bsOf_data,Array.length_toList]
   rfl)
  have HS:=Lib.hid hS;have HN:=Lib.hid hn;have HF:=Lib.hid hf;have HP:=Lib.hid hp
  clear hS hn hf hp
  obtain rfl | rfl:k=0∨k=1:=by omega
  ·rw [show ((0:Nat):Int)=0 from rfl]
   go_enter Tryz.func183,Tryz.ntmps183
   go_wp2_with fail
   refine wp_region_cls (w) (by kernel_rfl) (by kernel_rfl) (Cls.start _) ?_
   repeat
    first
     | go_big_quiet_skip
     | (go_big_quiet_want;(first | go_big_quiet_op | go_simp);first | go_big_quiet_on | (apply Exists.intro;refine ⟨fun w' hw'=>?_, ?_⟩;(·(first | (with_reducible exact rfl) | (first | (go_at_call 114;(with_reducible refine (N0.out _).mono ?_);rintro e w1 ⟨rfl,hb⟩;exact ⟨rfl,Cls.step hw' hb⟩) | (go_at_call 114;(with_reducible refine (N4.out _).mono ?_);rintro e w1 ⟨rfl,hb⟩;exact ⟨rfl,Cls.step hw' hb⟩) | (go_at_call 114;(with_reducible refine (N8.out _).mono ?_);rintro e w1 ⟨rfl,hb⟩;exact ⟨rfl,Cls.step hw' hb⟩)) | (obtain ⟨hc,hf⟩:=hw'.facts;go_simp;first | done | (with_reducible exact rfl) | (with_reducible exact ⟨rfl,rfl⟩))));go_big_quiet_on))
   refine wpQuiet_nil ?_
   intro wq hq
   go_wp2_with (go_at_call 187;(with_reducible refine (ST.out _).mono ?_);rintro e w1 ⟨rfl,hb⟩;obtain ⟨hc,hf⟩:=bcell hb;have hz:=hb.size;(try simp at hz))
   all_goals
    ((try simp only [Exit.inBlock,Exit.then]);refine bodyPost_ret (results_tmp4 rfl _ _ _) rfl ?_)
    first
     | refine ⟨n,f,p,_,rfl,SlotIs.mk E.out (fun h=>h.2.1) ?_,bel_step hq.bel hb hq.bel.size⟩
     | refine ⟨n,0,p,_,rfl,SlotIs.mk (C:=T.toList=S.toList∧1≤n∧n≤3) ?_ (fun h=>h.2.1) ?_,bel_step hq.bel hb hq.bel.size⟩
    all_goals first
     | (have f0:f=0:=by assumption
        rw [E.out,f0];simp;done)
     | (constructor
        ·intro h
         first
          | (cases h;done)
          | exact ⟨by assumption,by omega,by omega⟩
          | (refine ⟨by assumption,by omega,by omega, ?_⟩;simp at h;omega)
        ·rintro ⟨h1,h2⟩
         first
          | rfl
          | exact absurd h1 (by assumption)
          | (exfalso;omega)
          | (simp;omega))
  ·rw [show ((1:Nat):Int)=1 from rfl]
   go_enter Tryz.func183,Tryz.ntmps183
   go_wp2_with fail
   refine wp_region_cls (w) (by kernel_rfl) (by kernel_rfl) (Cls.start _) ?_
   repeat
    first
     | go_big_quiet_skip
     | (go_big_quiet_want;(first | go_big_quiet_op | go_simp);first | go_big_quiet_on | (apply Exists.intro;refine ⟨fun w' hw'=>?_, ?_⟩;(·(first | (with_reducible exact rfl) | (first | (go_at_call 114;(with_reducible refine (N0.out _).mono ?_);rintro e w1 ⟨rfl,hb⟩;exact ⟨rfl,Cls.step hw' hb⟩) | (go_at_call 114;(with_reducible refine (N4.out _).mono ?_);rintro e w1 ⟨rfl,hb⟩;exact ⟨rfl,Cls.step hw' hb⟩) | (go_at_call 114;(with_reducible refine (N8.out _).mono ?_);rintro e w1 ⟨rfl,hb⟩;exact ⟨rfl,Cls.step hw' hb⟩)) | (obtain ⟨hc,hf⟩:=hw'.facts;go_simp;first | done | (with_reducible exact rfl) | (with_reducible exact ⟨rfl,rfl⟩))));go_big_quiet_on))
   refine wpQuiet_nil ?_
   intro wq hq
   go_wp2_with (go_at_call 187;(with_reducible refine (ST.out _).mono ?_);rintro e w1 ⟨rfl,hb⟩;obtain ⟨hc,hf⟩:=bcell hb;have hz:=hb.size;(try simp at hz))
   all_goals
    ((try simp only [Exit.inBlock,Exit.then]);refine bodyPost_ret (results_tmp4 rfl _ _ _) rfl ?_)
    first
     | refine ⟨n,f,p,_,rfl,SlotIs.mk E.out (fun h=>h.2.1) ?_,bel_step hq.bel hb hq.bel.size⟩
     | refine ⟨n,0,p,_,rfl,SlotIs.mk (C:=T.toList=S.toList∧1≤n∧n≤3) ?_ (fun h=>h.2.1) ?_,bel_step hq.bel hb hq.bel.size⟩
    all_goals first
     | (have f0:f=0:=by assumption
        rw [E.out,f0];simp;done)
     | (constructor
        ·intro h
         first
          | (cases h;done)
          | exact ⟨by assumption,by omega,by omega⟩
          | (refine ⟨by assumption,by omega,by omega, ?_⟩;simp at h;omega)
        ·rintro ⟨h1,h2⟩
         first
          | rfl
          | exact absurd h1 (by assumption)
          | (exfalso;omega)
          | (simp;omega))
set_option maxRecDepth 100000 in
set_option maxHeartbeats 1600000 in
theorem ref_slot (n f p:Nat) (hn:n≤4611686018427387904) (hf:f≤4611686018427387904) (hp:p≤4611686018427387904) (w:World):Calls Tryz.prog 201 #[.int .i64 n,.int .i64 f,.int .i64 p] w fun e w'=>e = .returned (.string (bsOf (slotL n f p)))∧Below w.heap.size w w':=by
 have T1:=Lib.hid (fun w=>ref_bytes n 4 (by omega) (by omega) w)
 have T2:=Lib.hid (fun w=>ref_bytes f 4 (by omega) (by omega) w)
 have T3:=Lib.hid (fun w=>ref_bytes p 4 (by omega) (by omega) w)
 have E:=Lib.hid (show bsOf (slotL n f p)=bsOf (beK n 4)++bsOf (beK f 4)++bsOf (beK p 4)++(bsOf (beK n 4)++bsOf (beK f 4)++bsOf (beK p 4)) by simp only [bsOf_append,slotL])
 rw [E.out]
 obtain ⟨s1,hs1⟩:∃ s,bsOf (beK n 4)=s:=⟨_,rfl⟩
 obtain ⟨s2,hs2⟩:∃ s,bsOf (beK f 4)=s:=⟨_,rfl⟩
 obtain ⟨s3,hs3⟩:∃ s,bsOf (beK p 4)=s:=⟨_,rfl⟩
 have z1:s1.size=4:=by rw [← hs1,bsOf_size,beK_len]
 have z2:s2.size=4:=by rw [← hs2,bsOf_size,beK_len]
 have z3:s3.size=4:=by rw [← hs3,bsOf_size,beK_len]
 have u1:(n:Int) % 18446744073709551616=n:=by omega
 have u2:(f:Int) % 18446744073709551616=f:=by omega
 have u3:(p:Int) % 18446744073709551616=p:=by omega
 simp only [hs1,hs2,hs3,show ((4:Nat):Int)=4 from rfl] at T1 T2 T3 ⊢
 clear E hs1 hs2 hs3
 go_enter Tryz.func201,Tryz.ntmps201
 go_wp2_with (first | (go_at_call 149;(with_reducible refine (T1.out _).mono ?_);rintro e w1 ⟨rfl,hb⟩;obtain ⟨hc,hf⟩:=bcell hb;have hz:=hb.size;(try simp at hz)) | (go_at_call 149;(with_reducible refine (T2.out _).mono ?_);rintro e w1 ⟨rfl,hb⟩;obtain ⟨hc,hf⟩:=bcell hb;have hz:=hb.size;(try simp at hz)) | (go_at_call 149;(with_reducible refine (T3.out _).mono ?_);rintro e w1 ⟨rfl,hb⟩;obtain ⟨hc,hf⟩:=bcell hb;have hz:=hb.size;(try simp at hz)))
 go_ret
 rename_i wa ha _ _ za wb hb2 _ _ zb
 exact ⟨rfl,bel_step (bel_step ha hb2 za) hb (Nat.le_trans za zb)⟩
end Go.Proofs.YtjihboddejaelaaGreat
namespace Go.Proofs.YtjihboddejaelaaGreat
open Go.RowKit
open Go.BigFrame
def SlotVal (x:Nat×Nat×Nat):Value:=.tuple #[.int .i64 x.1,.int .i64 x.2.1,.int .i64 x.2.2]
theorem slotVal_zero:SlotVal (0,0,0) = .tuple #[.int .i64 0,.int .i64 0,.int .i64 0]:=rfl
set_option maxRecDepth 100000 in
set_option maxHeartbeats 1600000 in
theorem ref_slotOf (s:ByteArray) (k:Nat) (hk:k<2) (hs:s.size≤67108864) (w:World) :
 Calls Tryz.prog 146 #[.string s,.int .i64 k] w fun e w'=>e = .returned (SlotVal (slotOf s.data.toList k))∧Below w.heap.size w w':=by
 by_cases h1:s.size<40+24*k
 ·have E:=Lib.hid (slotOf_far (l:=s.data.toList) (k:=k) (by simpa using h1))
  rw [E.out,slotVal_zero]
  go_enter Tryz.func146,Tryz.ntmps146
  go_wp2_with fail
  go_ret3
  exact ⟨rfl,Below.refl _ _⟩
 ·obtain ⟨T,hT⟩:∃ T,s.extract (16+24*k) (40+24*k)=T:=⟨_,rfl⟩
  have hz:T.size=24:=by rw [← hT,ByteArray.size_extract];omega
  obtain ⟨T0,hT0⟩:∃ U,T.extract 0 4=U:=⟨_,rfl⟩
  obtain ⟨T4,hT4⟩:∃ U,T.extract 4 8=U:=⟨_,rfl⟩
  obtain ⟨T8,hT8⟩:∃ U,T.extract 8 12=U:=⟨_,rfl⟩
  obtain ⟨U,hU⟩:∃ U,T.extract 0 12=U:=⟨_,rfl⟩
  obtain ⟨V,hV⟩:∃ U,T.extract 12 24=U:=⟨_,rfl⟩
  have hz0:T0.size=4:=by rw [← hT0,ByteArray.size_extract];omega
  have hz4:T4.size=4:=by rw [← hT4,ByteArray.size_extract];omega
  have hz8:T8.size=4:=by rw [← hT8,ByteArray.size_extract];omega
  have N0:=Lib.hid (ref_unbytes T0 (by omega))
  have N4:=Lib.hid (ref_unbytes T4 (by omega))
  have N8:=Lib.hid (ref_unbytes T8 (by omega))
  obtain ⟨n,hn⟩:∃ n,unK T0.data.toList=n:=⟨_,rfl⟩
  obtain ⟨f,hf⟩:∃ n,unK T4.data.toList=n:=⟨_,rfl⟩
  obtain ⟨p,hp⟩:∃ n,unK T8.data.toList=n:=⟨_,rfl⟩
  have ln:n<4294967296:=by rw [← hn];exact unK_lt 4 _ (by simp;omega)
  have lf:f<4294967296:=by rw [← hf];exact unK_lt 4 _ (by simp;omega)
  have lp:p<4294967296:=by rw [← hp];exact unK_lt 4 _ (by simp;omega)
  rw [hn] at N0;rw [hf] at N4;rw [hp] at N8
  have E:=Lib.hid (show slotOf s.data.toList k=if ¬ U.toList=V.toList∨¬ (1≤n∧n≤3)∨0<f∧s.size<64+1028*f then (0,0,0) else (n,f,p) by
   have hT2:partL s.data.toList (16+24*k) 24=T.data.toList:=by rw [← hT,extr_part,bsOf_data];congr 1;omega
   unfold slotOf
   rw [if_neg (by simpa using h1)]
   simp only [hT2]
   have e0:unK (T.data.toList.take 4)=n:=by rw [← hn,← hT0,extr_part,bsOf_data,partL_zero]
   have e4:unK (partL T.data.toList 4 4)=f:=by rw [← hf,← hT4,extr_part,bsOf_data]
   have e8:unK (partL T.data.toList 8 4)=p:=by rw [← hp,← hT8,extr_part,bsOf_data]
   have eU:U.toList=T.data.toList.take 12:=by rw [← hU,Lib.toList_data,extr_part,bsOf_data,partL_zero]
   have eV:V.toList=T.data.toList.drop 12:=by
    rw [← hV,Lib.toList_data,extr_part,bsOf_data];unfold partL;exact List.take_of_length_le (by rw [List.length_drop,Array.length_toList];show T.size-12≤_;omega)
   rw [e0,e4,e8,eU,eV,Array.length_toList]
   rfl)
  have HN:=Lib.hid hn;have HF:=Lib.hid hf;have HP:=Lib.hid hp
  have IN:=Lib.hid (fun w=>ref_in n 1 3 w)
  clear hn hf hp
  obtain rfl | rfl:k=0∨k=1:=by omega
  ·rw [show ((0:Nat):Int)=0 from rfl]
   by_cases q1:U.toList=V.toList
   ·by_cases q2:1≤n∧n≤3
    ·by_cases q3:0<f
     ·by_cases q4:s.size<64+1028*f
      ·skip
       have b1:(U.toList == V.toList)=true:=by simpa using q1
       have b2:(decide ((1:Int)≤(n:Int)) && decide ((n:Int)≤(3:Int)))=true:=by simp;omega
       rw [b2] at IN
       have b3:decide ((0:Int)<(f:Int))=true:=by simp;omega
       have b4:decide ((s.size:Int)<64+(f:Int)*1028)=true:=by simp;omega
       have E:=Lib.hid (E.out.trans (if_pos (.inr (.inr ⟨q3,q4⟩))))
       rw [E.out,slotVal_zero]
       go_enter Tryz.func146,Tryz.ntmps146
       go_wp2_with fail
       refine wp_region_cls (w) (by kernel_rfl) (by kernel_rfl) (Cls.start _) ?_
       repeat
        first
         | go_big_quiet_skip
         | (go_big_quiet_want;(first | go_big_quiet_op | go_simp);first | go_big_quiet_on | (apply Exists.intro;refine ⟨fun w' hw'=>?_, ?_⟩;(·(first | (with_reducible exact rfl) | (first | (go_at_call 148;(with_reducible refine (N0.out _).mono ?_);rintro e w1 ⟨rfl,rfl⟩;exact ⟨rfl,hw'⟩) | (go_at_call 148;(with_reducible refine (N4.out _).mono ?_);rintro e w1 ⟨rfl,rfl⟩;exact ⟨rfl,hw'⟩) | (go_at_call 148;(with_reducible refine (N8.out _).mono ?_);rintro e w1 ⟨rfl,rfl⟩;exact ⟨rfl,hw'⟩)) | (obtain ⟨hc,hf⟩:=hw'.facts;go_simp;first | done | (with_reducible exact rfl) | (with_reducible exact ⟨rfl,rfl⟩))));go_big_quiet_on))
       refine wpQuiet_nil ?_
       intro wq hq
       have hq1:=hq.bel
       clear hq
       go_wp2_with fail
       refine wp_region_cls (wq) (by kernel_rfl) (by kernel_rfl) (Cls.start _) ?_
       repeat
        first
         | go_big_quiet_skip
         | (go_big_quiet_want;(first | go_big_quiet_op | go_simp);first | go_big_quiet_on | (apply Exists.intro;refine ⟨fun w' hw'=>?_, ?_⟩;(·(first | (with_reducible exact rfl) | ((go_at_call 63;refine (IN.out _).mono ?_;rintro e w1 ⟨rfl,rfl⟩;exact ⟨rfl,hw'⟩)) | (obtain ⟨hc,hf⟩:=hw'.facts;go_simp;first | done | (with_reducible exact rfl) | (with_reducible exact ⟨rfl,rfl⟩))));go_big_quiet_on))
       refine wpQuiet_nil ?_
       intro wq hq
       go_wp2_with fail
       go_ret3
       exact ⟨rfl,bel_step hq1 hq.bel hq1.size⟩
      ·skip
       have b1:(U.toList == V.toList)=true:=by simpa using q1
       have b2:(decide ((1:Int)≤(n:Int)) && decide ((n:Int)≤(3:Int)))=true:=by simp;omega
       rw [b2] at IN
       have b3:decide ((0:Int)<(f:Int))=true:=by simp;omega
       have b4:decide ((s.size:Int)<64+(f:Int)*1028)=false:=by simp;omega
       have E:=Lib.hid (E.out.trans (if_neg (fun h=>h.elim (fun h=>h q1) (fun h=>h.elim (fun h=>h q2) (fun h=>q4 h.2)))))
       rw [E.out,show SlotVal (n,f,p) = .tuple #[.int .i64 n,.int .i64 f,.int .i64 p] from rfl]
       go_enter Tryz.func146,Tryz.ntmps146
       go_wp2_with fail
       refine wp_region_cls (w) (by kernel_rfl) (by kernel_rfl) (Cls.start _) ?_
       repeat
        first
         | go_big_quiet_skip
         | (go_big_quiet_want;(first | go_big_quiet_op | go_simp);first | go_big_quiet_on | (apply Exists.intro;refine ⟨fun w' hw'=>?_, ?_⟩;(·(first | (with_reducible exact rfl) | (first | (go_at_call 148;(with_reducible refine (N0.out _).mono ?_);rintro e w1 ⟨rfl,rfl⟩;exact ⟨rfl,hw'⟩) | (go_at_call 148;(with_reducible refine (N4.out _).mono ?_);rintro e w1 ⟨rfl,rfl⟩;exact ⟨rfl,hw'⟩) | (go_at_call 148;(with_reducible refine (N8.out _).mono ?_);rintro e w1 ⟨rfl,rfl⟩;exact ⟨rfl,hw'⟩)) | (obtain ⟨hc,hf⟩:=hw'.facts;go_simp;first | done | (with_reducible exact rfl) | (with_reducible exact ⟨rfl,rfl⟩))));go_big_quiet_on))
       refine wpQuiet_nil ?_
       intro wq hq
       have hq1:=hq.bel
       clear hq
       go_wp2_with fail
       refine wp_region_cls (wq) (by kernel_rfl) (by kernel_rfl) (Cls.start _) ?_
       repeat
        first
         | go_big_quiet_skip
         | (go_big_quiet_want;(first | go_big_quiet_op | go_simp);first | go_big_quiet_on | (apply Exists.intro;refine ⟨fun w' hw'=>?_, ?_⟩;(·(first | (with_reducible exact rfl) | ((go_at_call 63;refine (IN.out _).mono ?_;rintro e w1 ⟨rfl,rfl⟩;exact ⟨rfl,hw'⟩)) | (obtain ⟨hc,hf⟩:=hw'.facts;go_simp;first | done | (with_reducible exact rfl) | (with_reducible exact ⟨rfl,rfl⟩))));go_big_quiet_on))
       refine wpQuiet_nil ?_
       intro wq hq
       go_wp2_with fail
       go_ret3
       exact ⟨rfl,bel_step hq1 hq.bel hq1.size⟩
     ·skip
      have b1:(U.toList == V.toList)=true:=by simpa using q1
      have b2:(decide ((1:Int)≤(n:Int)) && decide ((n:Int)≤(3:Int)))=true:=by simp;omega
      rw [b2] at IN
      have b3:decide ((0:Int)<(f:Int))=false:=by simp;omega
      have E:=Lib.hid (E.out.trans (if_neg (fun h=>h.elim (fun h=>h q1) (fun h=>h.elim (fun h=>h q2) (fun h=>q3 h.1)))))
      rw [E.out,show SlotVal (n,f,p) = .tuple #[.int .i64 n,.int .i64 f,.int .i64 p] from rfl]
      go_enter Tryz.func146,Tryz.ntmps146
      go_wp2_with fail
      refine wp_region_cls (w) (by kernel_rfl) (by kernel_rfl) (Cls.start _) ?_
      repeat
       first
        | go_big_quiet_skip
        | (go_big_quiet_want;(first | go_big_quiet_op | go_simp);first | go_big_quiet_on | (apply Exists.intro;refine ⟨fun w' hw'=>?_, ?_⟩;(·(first | (with_reducible exact rfl) | (first | (go_at_call 148;(with_reducible refine (N0.out _).mono ?_);rintro e w1 ⟨rfl,rfl⟩;exact ⟨rfl,hw'⟩) | (go_at_call 148;(with_reducible refine (N4.out _).mono ?_);rintro e w1 ⟨rfl,rfl⟩;exact ⟨rfl,hw'⟩) | (go_at_call 148;(with_reducible refine (N8.out _).mono ?_);rintro e w1 ⟨rfl,rfl⟩;exact ⟨rfl,hw'⟩)) | (obtain ⟨hc,hf⟩:=hw'.facts;go_simp;first | done | (with_reducible exact rfl) | (with_reducible exact ⟨rfl,rfl⟩))));go_big_quiet_on))
      refine wpQuiet_nil ?_
      intro wq hq
      have hq1:=hq.bel
      clear hq
      go_wp2_with fail
      refine wp_region_cls (wq) (by kernel_rfl) (by kernel_rfl) (Cls.start _) ?_
      repeat
       first
        | go_big_quiet_skip
        | (go_big_quiet_want;(first | go_big_quiet_op | go_simp);first | go_big_quiet_on | (apply Exists.intro;refine ⟨fun w' hw'=>?_, ?_⟩;(·(first | (with_reducible exact rfl) | ((go_at_call 63;refine (IN.out _).mono ?_;rintro e w1 ⟨rfl,rfl⟩;exact ⟨rfl,hw'⟩)) | (obtain ⟨hc,hf⟩:=hw'.facts;go_simp;first | done | (with_reducible exact rfl) | (with_reducible exact ⟨rfl,rfl⟩))));go_big_quiet_on))
      refine wpQuiet_nil ?_
      intro wq hq
      go_wp2_with fail
      go_ret3
      exact ⟨rfl,bel_step hq1 hq.bel hq1.size⟩
    ·skip
     have b1:(U.toList == V.toList)=true:=by simpa using q1
     have b2:(decide ((1:Int)≤(n:Int)) && decide ((n:Int)≤(3:Int)))=false:=by simp;omega
     rw [b2] at IN
     have E:=Lib.hid (E.out.trans (if_pos (.inr (.inl q2))))
     rw [E.out,slotVal_zero]
     go_enter Tryz.func146,Tryz.ntmps146
     go_wp2_with fail
     refine wp_region_cls (w) (by kernel_rfl) (by kernel_rfl) (Cls.start _) ?_
     repeat
      first
       | go_big_quiet_skip
       | (go_big_quiet_want;(first | go_big_quiet_op | go_simp);first | go_big_quiet_on | (apply Exists.intro;refine ⟨fun w' hw'=>?_, ?_⟩;(·(first | (with_reducible exact rfl) | (first | (go_at_call 148;(with_reducible refine (N0.out _).mono ?_);rintro e w1 ⟨rfl,rfl⟩;exact ⟨rfl,hw'⟩) | (go_at_call 148;(with_reducible refine (N4.out _).mono ?_);rintro e w1 ⟨rfl,rfl⟩;exact ⟨rfl,hw'⟩) | (go_at_call 148;(with_reducible refine (N8.out _).mono ?_);rintro e w1 ⟨rfl,rfl⟩;exact ⟨rfl,hw'⟩)) | (obtain ⟨hc,hf⟩:=hw'.facts;go_simp;first | done | (with_reducible exact rfl) | (with_reducible exact ⟨rfl,rfl⟩))));go_big_quiet_on))
     refine wpQuiet_nil ?_
     intro wq hq
     have hq1:=hq.bel
     clear hq
     go_wp2_with fail
     refine wp_region_cls (wq) (by kernel_rfl) (by kernel_rfl) (Cls.start _) ?_
     repeat
      first
       | go_big_quiet_skip
       | (go_big_quiet_want;(first | go_big_quiet_op | go_simp);first | go_big_quiet_on | (apply Exists.intro;refine ⟨fun w' hw'=>?_, ?_⟩;(·(first | (with_reducible exact rfl) | ((go_at_call 63;refine (IN.out _).mono ?_;rintro e w1 ⟨rfl,rfl⟩;exact ⟨rfl,hw'⟩)) | (obtain ⟨hc,hf⟩:=hw'.facts;go_simp;first | done | (with_reducible exact rfl) | (with_reducible exact ⟨rfl,rfl⟩))));go_big_quiet_on))
     refine wpQuiet_nil ?_
     intro wq hq
     go_wp2_with fail
     go_ret3
     exact ⟨rfl,bel_step hq1 hq.bel hq1.size⟩
   ·skip
    have b1:(U.toList == V.toList)=false:=by simpa using q1
    have E:=Lib.hid (E.out.trans (if_pos (.inl q1)))
    rw [E.out,slotVal_zero]
    go_enter Tryz.func146,Tryz.ntmps146
    go_wp2_with fail
    refine wp_region_cls (w) (by kernel_rfl) (by kernel_rfl) (Cls.start _) ?_
    repeat
     first
      | go_big_quiet_skip
      | (go_big_quiet_want;(first | go_big_quiet_op | go_simp);first | go_big_quiet_on | (apply Exists.intro;refine ⟨fun w' hw'=>?_, ?_⟩;(·(first | (with_reducible exact rfl) | (first | (go_at_call 148;(with_reducible refine (N0.out _).mono ?_);rintro e w1 ⟨rfl,rfl⟩;exact ⟨rfl,hw'⟩) | (go_at_call 148;(with_reducible refine (N4.out _).mono ?_);rintro e w1 ⟨rfl,rfl⟩;exact ⟨rfl,hw'⟩) | (go_at_call 148;(with_reducible refine (N8.out _).mono ?_);rintro e w1 ⟨rfl,rfl⟩;exact ⟨rfl,hw'⟩)) | (obtain ⟨hc,hf⟩:=hw'.facts;go_simp;first | done | (with_reducible exact rfl) | (with_reducible exact ⟨rfl,rfl⟩))));go_big_quiet_on))
    refine wpQuiet_nil ?_
    intro wq hq
    have hq1:=hq.bel
    clear hq
    go_wp2_with fail
    refine wp_region_cls (wq) (by kernel_rfl) (by kernel_rfl) (Cls.start _) ?_
    repeat
     first
      | go_big_quiet_skip
      | (go_big_quiet_want;(first | go_big_quiet_op | go_simp);first | go_big_quiet_on | (apply Exists.intro;refine ⟨fun w' hw'=>?_, ?_⟩;(·(first | (with_reducible exact rfl) | ((go_at_call 63;refine (IN.out _).mono ?_;rintro e w1 ⟨rfl,rfl⟩;exact ⟨rfl,hw'⟩)) | (obtain ⟨hc,hf⟩:=hw'.facts;go_simp;first | done | (with_reducible exact rfl) | (with_reducible exact ⟨rfl,rfl⟩))));go_big_quiet_on))
    refine wpQuiet_nil ?_
    intro wq hq
    go_wp2_with fail
    go_ret3
    exact ⟨rfl,bel_step hq1 hq.bel hq1.size⟩
  ·rw [show ((1:Nat):Int)=1 from rfl]
   by_cases q1:U.toList=V.toList
   ·by_cases q2:1≤n∧n≤3
    ·by_cases q3:0<f
     ·by_cases q4:s.size<64+1028*f
      ·skip
       have b1:(U.toList == V.toList)=true:=by simpa using q1
       have b2:(decide ((1:Int)≤(n:Int)) && decide ((n:Int)≤(3:Int)))=true:=by simp;omega
       rw [b2] at IN
       have b3:decide ((0:Int)<(f:Int))=true:=by simp;omega
       have b4:decide ((s.size:Int)<64+(f:Int)*1028)=true:=by simp;omega
       have E:=Lib.hid (E.out.trans (if_pos (.inr (.inr ⟨q3,q4⟩))))
       rw [E.out,slotVal_zero]
       go_enter Tryz.func146,Tryz.ntmps146
       go_wp2_with fail
       refine wp_region_cls (w) (by kernel_rfl) (by kernel_rfl) (Cls.start _) ?_
       repeat
        first
         | go_big_quiet_skip
         | (go_big_quiet_want;(first | go_big_quiet_op | go_simp);first | go_big_quiet_on | (apply Exists.intro;refine ⟨fun w' hw'=>?_, ?_⟩;(·(first | (with_reducible exact rfl) | (first | (go_at_call 148;(with_reducible refine (N0.out _).mono ?_);rintro e w1 ⟨rfl,rfl⟩;exact ⟨rfl,hw'⟩) | (go_at_call 148;(with_reducible refine (N4.out _).mono ?_);rintro e w1 ⟨rfl,rfl⟩;exact ⟨rfl,hw'⟩) | (go_at_call 148;(with_reducible refine (N8.out _).mono ?_);rintro e w1 ⟨rfl,rfl⟩;exact ⟨rfl,hw'⟩)) | (obtain ⟨hc,hf⟩:=hw'.facts;go_simp;first | done | (with_reducible exact rfl) | (with_reducible exact ⟨rfl,rfl⟩))));go_big_quiet_on))
       refine wpQuiet_nil ?_
       intro wq hq
       have hq1:=hq.bel
       clear hq
       go_wp2_with fail
       refine wp_region_cls (wq) (by kernel_rfl) (by kernel_rfl) (Cls.start _) ?_
       repeat
        first
         | go_big_quiet_skip
         | (go_big_quiet_want;(first | go_big_quiet_op | go_simp);first | go_big_quiet_on | (apply Exists.intro;refine ⟨fun w' hw'=>?_, ?_⟩;(·(first | (with_reducible exact rfl) | ((go_at_call 63;refine (IN.out _).mono ?_;rintro e w1 ⟨rfl,rfl⟩;exact ⟨rfl,hw'⟩)) | (obtain ⟨hc,hf⟩:=hw'.facts;go_simp;first | done | (with_reducible exact rfl) | (with_reducible exact ⟨rfl,rfl⟩))));go_big_quiet_on))
       refine wpQuiet_nil ?_
       intro wq hq
       go_wp2_with fail
       go_ret3
       exact ⟨rfl,bel_step hq1 hq.bel hq1.size⟩
      ·skip
       have b1:(U.toList == V.toList)=true:=by simpa using q1
       have b2:(decide ((1:Int)≤(n:Int)) && decide ((n:Int)≤(3:Int)))=true:=by simp;omega
       rw [b2] at IN
       have b3:decide ((0:Int)<(f:Int))=true:=by simp;omega
       have b4:decide ((s.size:Int)<64+(f:Int)*1028)=false:=by simp;omega
       have E:=Lib.hid (E.out.trans (if_neg (fun h=>h.elim (fun h=>h q1) (fun h=>h.elim (fun h=>h q2) (fun h=>q4 h.2)))))
       rw [E.out,show SlotVal (n,f,p) = .tuple #[.int .i64 n,.int .i64 f,.int .i64 p] from rfl]
       go_enter Tryz.func146,Tryz.ntmps146
       go_wp2_with fail
       refine wp_region_cls (w) (by kernel_rfl) (by kernel_rfl) (Cls.start _) ?_
       repeat
        first
         | go_big_quiet_skip
         | (go_big_quiet_want;(first | go_big_quiet_op | go_simp);first | go_big_quiet_on | (apply Exists.intro;refine ⟨fun w' hw'=>?_, ?_⟩;(·(first | (with_reducible exact rfl) | (first | (go_at_call 148;(with_reducible refine (N0.out _).mono ?_);rintro e w1 ⟨rfl,rfl⟩;exact ⟨rfl,hw'⟩) | (go_at_call 148;(with_reducible refine (N4.out _).mono ?_);rintro e w1 ⟨rfl,rfl⟩;exact ⟨rfl,hw'⟩) | (go_at_call 148;(with_reducible refine (N8.out _).mono ?_);rintro e w1 ⟨rfl,rfl⟩;exact ⟨rfl,hw'⟩)) | (obtain ⟨hc,hf⟩:=hw'.facts;go_simp;first | done | (with_reducible exact rfl) | (with_reducible exact ⟨rfl,rfl⟩))));go_big_quiet_on))
       refine wpQuiet_nil ?_
       intro wq hq
       have hq1:=hq.bel
       clear hq
       go_wp2_with fail
       refine wp_region_cls (wq) (by kernel_rfl) (by kernel_rfl) (Cls.start _) ?_
       repeat
        first
         | go_big_quiet_skip
         | (go_big_quiet_want;(first | go_big_quiet_op | go_simp);first | go_big_quiet_on | (apply Exists.intro;refine ⟨fun w' hw'=>?_, ?_⟩;(·(first | (with_reducible exact rfl) | ((go_at_call 63;refine (IN.out _).mono ?_;rintro e w1 ⟨rfl,rfl⟩;exact ⟨rfl,hw'⟩)) | (obtain ⟨hc,hf⟩:=hw'.facts;go_simp;first | done | (with_reducible exact rfl) | (with_reducible exact ⟨rfl,rfl⟩))));go_big_quiet_on))
       refine wpQuiet_nil ?_
       intro wq hq
       go_wp2_with fail
       go_ret3
       exact ⟨rfl,bel_step hq1 hq.bel hq1.size⟩
     ·skip
      have b1:(U.toList == V.toList)=true:=by simpa using q1
      have b2:(decide ((1:Int)≤(n:Int)) && decide ((n:Int)≤(3:Int)))=true:=by simp;omega
      rw [b2] at IN
      have b3:decide ((0:Int)<(f:Int))=false:=by simp;omega
      have E:=Lib.hid (E.out.trans (if_neg (fun h=>h.elim (fun h=>h q1) (fun h=>h.elim (fun h=>h q2) (fun h=>q3 h.1)))))
      rw [E.out,show SlotVal (n,f,p) = .tuple #[.int .i64 n,.int .i64 f,.int .i64 p] from rfl]
      go_enter Tryz.func146,Tryz.ntmps146
      go_wp2_with fail
      refine wp_region_cls (w) (by kernel_rfl) (by kernel_rfl) (Cls.start _) ?_
      repeat
       first
        | go_big_quiet_skip
        | (go_big_quiet_want;(first | go_big_quiet_op | go_simp);first | go_big_quiet_on | (apply Exists.intro;refine ⟨fun w' hw'=>?_, ?_⟩;(·(first | (with_reducible exact rfl) | (first | (go_at_call 148;(with_reducible refine (N0.out _).mono ?_);rintro e w1 ⟨rfl,rfl⟩;exact ⟨rfl,hw'⟩) | (go_at_call 148;(with_reducible refine (N4.out _).mono ?_);rintro e w1 ⟨rfl,rfl⟩;exact ⟨rfl,hw'⟩) | (go_at_call 148;(with_reducible refine (N8.out _).mono ?_);rintro e w1 ⟨rfl,rfl⟩;exact ⟨rfl,hw'⟩)) | (obtain ⟨hc,hf⟩:=hw'.facts;go_simp;first | done | (with_reducible exact rfl) | (with_reducible exact ⟨rfl,rfl⟩))));go_big_quiet_on))
      refine wpQuiet_nil ?_
      intro wq hq
      have hq1:=hq.bel
      clear hq
      go_wp2_with fail
      refine wp_region_cls (wq) (by kernel_rfl) (by kernel_rfl) (Cls.start _) ?_
      repeat
       first
        | go_big_quiet_skip
        | (go_big_quiet_want;(first | go_big_quiet_op | go_simp);first | go_big_quiet_on | (apply Exists.intro;refine ⟨fun w' hw'=>?_, ?_⟩;(·(first | (with_reducible exact rfl) | ((go_at_call 63;refine (IN.out _).mono ?_;rintro e w1 ⟨rfl,rfl⟩;exact ⟨rfl,hw'⟩)) | (obtain ⟨hc,hf⟩:=hw'.facts;go_simp;first | done | (with_reducible exact rfl) | (with_reducible exact ⟨rfl,rfl⟩))));go_big_quiet_on))
      refine wpQuiet_nil ?_
      intro wq hq
      go_wp2_with fail
      go_ret3
      exact ⟨rfl,bel_step hq1 hq.bel hq1.size⟩
    ·skip
     have b1:(U.toList == V.toList)=true:=by simpa using q1
     have b2:(decide ((1:Int)≤(n:Int)) && decide ((n:Int)≤(3:Int)))=false:=by simp;omega
     rw [b2] at IN
     have E:=Lib.hid (E.out.trans (if_pos (.inr (.inl q2))))
     rw [E.out,slotVal_zero]
     go_enter Tryz.func146,Tryz.ntmps146
     go_wp2_with fail
     refine wp_region_cls (w) (by kernel_rfl) (by kernel_rfl) (Cls.start _) ?_
     repeat
      first
       | go_big_quiet_skip
       | (go_big_quiet_want;(first | go_big_quiet_op | go_simp);first | go_big_quiet_on | (apply Exists.intro;refine ⟨fun w' hw'=>?_, ?_⟩;(·(first | (with_reducible exact rfl) | (first | (go_at_call 148;(with_reducible refine (N0.out _).mono ?_);rintro e w1 ⟨rfl,rfl⟩;exact ⟨rfl,hw'⟩) | (go_at_call 148;(with_reducible refine (N4.out _).mono ?_);rintro e w1 ⟨rfl,rfl⟩;exact ⟨rfl,hw'⟩) | (go_at_call 148;(with_reducible refine (N8.out _).mono ?_);rintro e w1 ⟨rfl,rfl⟩;exact ⟨rfl,hw'⟩)) | (obtain ⟨hc,hf⟩:=hw'.facts;go_simp;first | done | (with_reducible exact rfl) | (with_reducible exact ⟨rfl,rfl⟩))));go_big_quiet_on))
     refine wpQuiet_nil ?_
     intro wq hq
     have hq1:=hq.bel
     clear hq
     go_wp2_with fail
     refine wp_region_cls (wq) (by kernel_rfl) (by kernel_rfl) (Cls.start _) ?_
     repeat
      first
       | go_big_quiet_skip
       | (go_big_quiet_want;(first | go_big_quiet_op | go_simp);first | go_big_quiet_on | (apply Exists.intro;refine ⟨fun w' hw'=>?_, ?_⟩;(·(first | (with_reducible exact rfl) | ((go_at_call 63;refine (IN.out _).mono ?_;rintro e w1 ⟨rfl,rfl⟩;exact ⟨rfl,hw'⟩)) | (obtain ⟨hc,hf⟩:=hw'.facts;go_simp;first | done | (with_reducible exact rfl) | (with_reducible exact ⟨rfl,rfl⟩))));go_big_quiet_on))
     refine wpQuiet_nil ?_
     intro wq hq
     go_wp2_with fail
     go_ret3
     exact ⟨rfl,bel_step hq1 hq.bel hq1.size⟩
   ·skip
    have b1:(U.toList == V.toList)=false:=by simpa using q1
    have E:=Lib.hid (E.out.trans (if_pos (.inl q1)))
    rw [E.out,slotVal_zero]
    go_enter Tryz.func146,Tryz.ntmps146
    go_wp2_with fail
    refine wp_region_cls (w) (by kernel_rfl) (by kernel_rfl) (Cls.start _) ?_
    repeat
     first
      | go_big_quiet_skip
      | (go_big_quiet_want;(first | go_big_quiet_op | go_simp);first | go_big_quiet_on | (apply Exists.intro;refine ⟨fun w' hw'=>?_, ?_⟩;(·(first | (with_reducible exact rfl) | (first | (go_at_call 148;(with_reducible refine (N0.out _).mono ?_);rintro e w1 ⟨rfl,rfl⟩;exact ⟨rfl,hw'⟩) | (go_at_call 148;(with_reducible refine (N4.out _).mono ?_);rintro e w1 ⟨rfl,rfl⟩;exact ⟨rfl,hw'⟩) | (go_at_call 148;(with_reducible refine (N8.out _).mono ?_);rintro e w1 ⟨rfl,rfl⟩;exact ⟨rfl,hw'⟩)) | (obtain ⟨hc,hf⟩:=hw'.facts;go_simp;first | done | (with_reducible exact rfl) | (with_reducible exact ⟨rfl,rfl⟩))));go_big_quiet_on))
    refine wpQuiet_nil ?_
    intro wq hq
    have hq1:=hq.bel
    clear hq
    go_wp2_with fail
    refine wp_region_cls (wq) (by kernel_rfl) (by kernel_rfl) (Cls.start _) ?_
    repeat
     first
      | go_big_quiet_skip
      | (go_big_quiet_want;(first | go_big_quiet_op | go_simp);first | go_big_quiet_on | (apply Exists.intro;refine ⟨fun w' hw'=>?_, ?_⟩;(·(first | (with_reducible exact rfl) | ((go_at_call 63;refine (IN.out _).mono ?_;rintro e w1 ⟨rfl,rfl⟩;exact ⟨rfl,hw'⟩)) | (obtain ⟨hc,hf⟩:=hw'.facts;go_simp;first | done | (with_reducible exact rfl) | (with_reducible exact ⟨rfl,rfl⟩))));go_big_quiet_on))
    refine wpQuiet_nil ?_
    intro wq hq
    go_wp2_with fail
    go_ret3
    exact ⟨rfl,bel_step hq1 hq.bel hq1.size⟩
end Go.Proofs.YtjihboddejaelaaGreat
namespace Go.Proofs.YtjihboddejaelaaGreat
open Go.RowKit
open Go.BigFrame
def Step (S:World→Prop) (Q:Int→World→Prop) (e:Ending) (w':World):Prop:=∃ r:Int,e = .returned (.int .i64 r)∧((r=0∧S w')∨(r≠0∧Q r w'))
def DoneQ (Q:Int→World→Prop) (e:Ending) (w':World):Prop:=∃ r:Int,e = .returned (.int .i64 r)∧Q r w'
set_option maxRecDepth 100000 in
set_option maxHeartbeats 1600000 in
theorem wal_done (fs:List (FuncId×Array Value)) (g n:Nat) (w:World) (S:Nat→World→Prop) (Q:Int→World→Prop) (hn:fs.length=n) (hn4:n≤4)
 (hcell:∀ i u,S i u→∀ j k cs,fs[j]? = some (k,cs)→u.cell? ⟨g,j,none⟩=some (.func (.func k) #[] cs))
 (hrun:∀ (i:Nat) k cs,fs[i]? = some (k,cs)→∀ u,(callFunc k cs).run Tryz.prog u = .ok (.enter k cs) u)
 (hstep:∀ (i:Nat) k cs,fs[i]? = some (k,cs)→∀ u,S i u→Calls Tryz.prog k cs u (Step (S (i+1)) Q))
 (hend:∀ u,S n u→Q 0 u) (h0:S 0 w) :
 Calls Tryz.prog 116 #[.slice (some ⟨g,0,none⟩) n n] w (DoneQ Q):=by
 have HC:=Lib.hid hcell
 have HS:=Lib.hid hstep
 have HE:=Lib.hid hend
 have HR:=Lib.hid hrun
 have HN:=Lib.hid hn
 have H0:=Lib.hid h0
 clear hcell hstep hrun hend hn h0
 go_enter Tryz.func116,Tryz.ntmps116
 go_wp2_with fail
 go_loopw [8] (fun v8 wr=>∃ i:Nat,i≤n∧v8 = .int .i64 i∧S i wr) (fun v8 _=>n-(intOf v8).toNat)
 case atStart=>exact ⟨0,Nat.zero_le _,rfl,H0.out⟩
 case round =>
  obtain ⟨i,hi,rfl,hS⟩:=hrel
  by_cases hin:i<n
  ·obtain ⟨k,cs,hk⟩:∃ k cs,fs[i]? = some (k,cs):=by
    have hl:i<fs.length:=by rw [HN.out];exact hin
    exact ⟨fs[i].1,fs[i].2,List.getElem?_eq_getElem hl⟩
   have c0:=HC.out i wr hS i k cs hk
   have ST:=Lib.hid (HS.out i k cs hk wr hS)
   have hru:=HR.out i k cs hk wr
   clear hS hk
   go_wp2_with ((with_reducible refine ST.out.mono ?_);rintro e w1 ⟨r,rfl,hr⟩;have HR:=Lib.hid hr;clear hr)
   ·go_ret
    rename_i hrn
    have hr0:r≠0:=by simpa using hrn
    exact ⟨r,rfl,HR.out.elim (fun h=>absurd h.1 hr0) (fun h=>h.2)⟩
   ·rename_i hrn
    have hr0:r=0:=by simpa using hrn
    refine ⟨⟨i+1,by omega,by simp,HR.out.elim (fun h=>h.2) (fun h=>absurd hr0 h.1)⟩, ?_⟩
    simp [intOf];omega
  ·obtain rfl:i=n:=by omega
   have HSS:=Lib.hid (HE.out _ hS)
   clear hS
   go_wp2_with fail
   go_ret
   exact ⟨0,rfl,HSS.out⟩
end Go.Proofs.YtjihboddejaelaaGreat
namespace Go.Proofs.YtjihboddejaelaaGreat
open Go.RowKit
open Go.BigFrame
open Go.Maps
theorem lawInt:Keyed Tryz.prog 3 := int_keyed Tryz.underlying3
theorem zeroInt (w:World):(zeroValue 3).run Tryz.prog w = .ok (.int .i64 0) w:=by kernel_rfl
def MP (w:World) (b n:Nat) (f:Int→Nat):Prop:=∃ D:DataW Unit,w.ownsMap Tryz.prog 3 (plainElem Tryz.prog 3) b n D∧∀ x:Int,D.atKey (.int .i64 x) (.lit (.int .i64 0)) = .lit (.int .i64 (f x))
theorem MP.kept {w w':World} {b n:Nat} {f:Int→Nat} {row:Option Nat} (h:MP w b n f) (hg:w.grownBy w' row) (hn:some b≠row):MP w' b n f:=by
 obtain ⟨D,h1,h2⟩:=h
 exact ⟨D,h1.kept hg hn,h2⟩
theorem MP.lt {w:World} {b n:Nat} {f:Int→Nat} (h:MP w b n f):b<w.heap.size:=by
 obtain ⟨D,h1,h2⟩:=h
 exact h1.lt
theorem MP.block {w w':World} {b n:Nat} {f:Int→Nat} (h:MP w b n f) (hb:w'.heap[b]? = w.heap[b]?):MP w' b n f:=by
 obtain ⟨D,⟨es,cl,h1,h2⟩,h3⟩:=h
 exact ⟨D,⟨es,cl,hb.trans h1,h2⟩,h3⟩
theorem MP.below {w w':World} {b n:Nat} {f:Int→Nat} (h:MP w b n f) (hb:Below w.heap.size w w'):MP w' b n f:=h.block (hb.block b h.lt)
theorem MP.made (w:World):MP (w.alloc (.map #[] 0)) w.heap.size 0 (fun _=>0):=⟨_,World.ownsMap_made _ _ _ _,fun x=>rfl⟩
theorem make_hint (n:Nat) (w:World):(Instr.makeMap 104 (some (.int .i64 n))).run Tryz.prog w = .ok (.map (some w.heap.size)) (w.alloc (.map #[] 0)):=by
 simp [Instr.makeMap,asInt,asIntOf]
def CopyPost (w:World) (a p n:Nat) (f:Int→Nat) (e:Ending) (w':World):Prop :=
 ∃ b',e = .returned (.agg #[.int .i64 a,.int .i64 p,.map (some b')])∧MP w' b' n f∧w.heap.size≤b'∧Below w.heap.size w w'
set_option maxRecDepth 100000 in
set_option maxHeartbeats 1600000 in
theorem wal_copied (b a p n:Nat) (f:Int→Nat) (w:World) (hn:n≤1000000) (h:MP w b n f) :
 Calls Tryz.prog 115 #[.agg #[.int .i64 a,.int .i64 p,.map (some b)]] w (CopyPost w a p n f):=by
 obtain ⟨D0,hown,hD⟩:=h
 have hmm:=make_hint
 have hbl:=hown.lt
 have hsz:=hown.size_le
 have HD:=Lib.hid hD
 have HA:=Lib.hid (Has.new w 179 #[.int .i64 a,.int .i64 p,.map (some b)])
 clear hD
 go_enter Tryz.func115,Tryz.ntmps115
 go_wp2_with (first
  | (at_len;refine wpList_len_own _ rfl _ 104 rfl 3 3 Tryz.underlying104 _ b n D0 rfl ((hown.alloc _).alloc _) ?_)
  | (at_range;refine wpList_range_own _ rfl _ 104 rfl 3 3 lawInt Tryz.underlying104 _ b n _ rfl (((hown.alloc _).alloc _).alloc _) ?_;intro w0 hrg0 hg0 hs0)
  | go_in)
 go_frame
 have e1:(((w.alloc (.cells #[.int .i64 a,.int .i64 p,.map (some b)] 179)).alloc (.cells #[.int .i64 0,.int .i64 0,.map none] 179)).alloc (.map #[] 0)).heap.size=w.heap.size+1+1+1:=by simp
 have HB:=Lib.hid (Has.new (w.alloc (.cells #[.int .i64 a,.int .i64 p,.map (some b)] 179)) 179 #[.int .i64 0,.int .i64 0,.map none])
 rw [World.size_alloc] at HB
 rw [e1] at hrg0 hs0 ⊢
 have HM0:=Lib.hid (World.ownsMap_made (H:=Unit) ((w.alloc (.cells #[.int .i64 a,.int .i64 p,.map (some b)] 179)).alloc (.cells #[.int .i64 0,.int .i64 0,.map none] 179)) Tryz.prog 3 (plainElem Tryz.prog 3))
 rw [World.size_alloc,World.size_alloc] at HM0
 go_loopw [4] (fun _ wr=>∃ (left:Lit→Bool) (cnt:Nat) (Dout:DataW Unit),wr.ranges Tryz.prog 3 (plainElem Tryz.prog 3) b (w.heap.size+1+1+1) n D0 left cnt∧cnt≤Maps.size D0 ∧
  wr.ownsMap Tryz.prog 3 (plainElem Tryz.prog 3) (w.heap.size+1+1) (Maps.size D0-cnt) Dout∧Agree Dout D0 left∧Below w.heap.size w wr ∧
  Has wr w.heap.size 179 #[.int .i64 a,.int .i64 p,.map (some b)]∧Has wr (w.heap.size+1) 179 #[.int .i64 0,.int .i64 0,.map none])
  (fun _ wr=>wr.rangeLeft b (w.heap.size+1+1+1))
 case atStart =>
  exact ⟨_,_,.map [],hrg0,Nat.le_refl _,(HM0.out.kept hg0 (by simp)).mono (Nat.zero_le _),agree_start D0,((((Below.refl _ _).alloc (Nat.le_refl _) _).alloc (by simp) _).alloc (by simp;omega) _).grown hg0 (by simp;omega) (fun j hj=>by cases hj),
   ((HA.out.alloc _).alloc _).grown hg0 (by simp),(HB.out.alloc _).grown hg0 (by simp)⟩
 case round =>
  obtain ⟨left,cnt,Dout,hrg,hcs,hout,hA,hnx,hp,hr⟩:=hrel
  have HP:=Lib.hid hp
  have HR:=Lib.hid hr
  obtain ⟨c0,c1,c2,d0,d1,d2⟩:=(show wr.cell? ⟨w.heap.size,0,none⟩=some (.int .i64 a)∧wr.cell? ⟨w.heap.size,1,none⟩=some (.int .i64 p)∧wr.cell? ⟨w.heap.size,2,none⟩=some (.map (some b))∧wr.cell? ⟨w.heap.size+1,0,none⟩=some (.int .i64 0)∧wr.cell? ⟨w.heap.size+1,1,none⟩=some (.int .i64 0)∧wr.cell? ⟨w.heap.size+1,2,none⟩=some (.map none) from ⟨hp.cell 0,hp.cell 1,hp.cell 2,hr.cell 0,hr.cell 1,hr.cell 2⟩)
  have cf:=hp.frozen
  have cf2:=hr.frozen
  clear hp hr HA HB HM0 hrg0 hg0 hs0 e1
  go_wp2_with (first
   | (at_next;refine wpList_next_ranges_ii _ rfl _ rfl 3 3 .i64 .i64 lawInt Tryz.underlying3 Tryz.underlying3 b (w.heap.size+1+1+1) n _ _ _ rfl hrg ?_ ?_)
   | go_in)
  ·intro hc0 hl0
   go_wp2
   subst hc0
   have e:=agree_end hA hl0 (hout.canon lawInt) (hown.canon lawInt)
   subst e
   have h2:=(HR.out.far (p:=⟨w.heap.size,2,none⟩) (by simp) (.map (some (w.heap.size+1+1)))).set3 (x:=.int .i64 a) (y:=.int .i64 p) (z:=.map (some (w.heap.size+1+1)))
   have h3:=(((hout.setCell (a:=⟨w.heap.size,2,none⟩) (by simp;omega) (.map (some (w.heap.size+1+1)))).setCell (a:=⟨w.heap.size+1,0,none⟩) (by simp) (.int .i64 a)).setCell (a:=⟨w.heap.size+1,1,none⟩) (by simp) (.int .i64 p)).setCell (a:=⟨w.heap.size+1,2,none⟩) (by simp) (.map (some (w.heap.size+1+1)))
   have h4:=(((hnx.setCell (p:=⟨w.heap.size,2,none⟩) (Nat.le_refl _) (.map (some (w.heap.size+1+1)))).setCell (p:=⟨w.heap.size+1,0,none⟩) (by simp) (.int .i64 a)).setCell (p:=⟨w.heap.size+1,1,none⟩) (by simp) (.int .i64 p)).setCell (p:=⟨w.heap.size+1,2,none⟩) (by simp) (.map (some (w.heap.size+1+1)))
   refine bodyPost_ret (results_cell_row rfl _ _ (w.heap.size+1) 179 _ (0,0) _ rfl h2 Tryz.underlying179 rfl (by kernel_rfl)) rfl ?_
   exact ⟨_,rfl,⟨_,h3.mono (by omega),HD.out⟩,by omega,h4⟩
  ·intro x c w1 cnt1 hwx hwc hlx hat hrg1 hlt hg1 hs1 hen
   have hout1:=hout.kept hg1 (by simp)
   go_wp2_with (first
    | (at_mapUpdate;refine wpList_mapUpdate_own _ rfl _ _ _ 104 rfl 3 3 lawInt Tryz.underlying104 _ (w.heap.size+1+1) _ _ rfl hout1 (by unfold maxLen;omega) _ _ _ rfl rfl (keyOf_int_mk Tryz.underlying3 hwx) _ [] (plainElem_int Tryz.underlying3 hwc) ?_;intro w2 hout2 hg2;go_frame)
    | go_in)
   have hrg2:=hrg1.kept hg2 (fun e=>by have:=Option.some.inj e;omega) (fun e=>by have:=Option.some.inj e;omega)
   go_roundw
   case rel =>
    exact ⟨_,cnt1,_,hrg2,by omega,hout2.mono (by omega),agree_step hA hout.isMap trivial hat,
     (hnx.grown hg1 hnx.size (fun j hj=>by cases hj;omega)).grown hg2 (by have:=hnx.size;omega) (fun j hj=>by cases hj;omega),
     (HP.out.grown hg1 (by simp <;> omega)).grown hg2 (by simp <;> omega),(HR.out.grown hg1 (by simp <;> omega)).grown hg2 (by simp <;> omega)⟩
   case measure=>rw [hrg2.left_eq,hrg.left_eq];exact hlt
end Go.Proofs.YtjihboddejaelaaGreat
namespace Go.Proofs.YtjihboddejaelaaGreat
open Go.RowKit
open Go.BigFrame
open Go.Maps
structure Rw where
 D:Dk
 nf:Nat
 np:Nat
 f1:Int→Nat
 kf:Nat
 kp:Nat
 f2:Int→Nat
 slot:Nat
 number:Nat
def rwCells (gd m1 m2:Nat) (R:Rw):Array Value:=#[.pointer (some ⟨gd,0,none⟩),.int .i64 R.nf,.int .i64 R.np,.map (some m1),.int .i64 R.kf,.int .i64 R.kp,.map (some m2),.int .i64 R.slot,.int .i64 R.number]
def lb (g m1 m2:Nat):List (Option Nat):=[some g,some m1,some m2]
structure LR (w:World) (b:List (Option Nat)) (gd g m1 m2:Nat) (R:Rw):Prop where
 disk:DP w b gd R.D
 has:Has w g 181 (rwCells gd m1 m2 R)
 map1:MP w m1 R.nf R.f1
 map2:MP w m2 R.kf R.f2
 ne:m1≠m2
 apart:Disj b (lb g m1 m2)
theorem has_map {w:World} {g m:Nat} {t:TypeId} {cs:Array Value} {n:Nat} {f:Int→Nat} (h:Has w g t cs) (hm:MP w m n f):g≠m:=by
 rintro rfl
 obtain ⟨D,⟨es,cl,h1,_⟩,_⟩:=hm
 unfold Has at h
 rw [h] at h1;cases h1
theorem DP.has {w:World} {b:List (Option Nat)} {g:Nat} {D:Dk} (h:DP w b g D):some g∈b:=DPx.has h
theorem MP.turn {w w':World} {b b':List (Option Nat)} {m n:Nat} {f:Int→Nat} (h:MP w m n f) (ht:Turn b b' w w') (hg:some m∉b):MP w' m n f:=h.block (ht.block m h.lt hg)
theorem DP.turn {w w':World} {b c c':List (Option Nat)} {g:Nat} {D:Dk} (h:DP w b g D) (ht:Turn c c' w w') (hd:Disj c b):DP w' b g D:=by
 obtain ⟨v0,v1,v2,v3,v4,rfl,h2⟩:=h
 exact ⟨v0,v1,v2,v3,v4,rfl,h2.far ht hd⟩
theorem DP.disj {w w':World} {b c c':List (Option Nat)} {g:Nat} {D:Dk} (h:DP w b g D) (ht:Turn c c' w w') (hd:Disj c b):Disj c' b:=by
 obtain ⟨v0,v1,v2,v3,v4,rfl,h2⟩:=h
 exact h2.disj ht hd
theorem Turn.left {w w':World} {b b':List (Option Nat)} (c:List (Option Nat)) (h:Turn b b' w w'):Turn (b++c) (b'++c) w w' :=
 ⟨h.os,h.tape,h.output,h.size,fun k hk hn=>h.block k hk (fun h2=>hn (List.mem_append_left _ h2)),fun k hk=>by
   rcases List.mem_append.1 hk with h2 | h2
   ·exact (h.new k h2).imp (List.mem_append_left _) id
   ·exact .inl (List.mem_append_right _ h2)⟩
theorem Turn.right {w w':World} {b b':List (Option Nat)} (c:List (Option Nat)) (h:Turn b b' w w'):Turn (c++b) (c++b') w w' :=
 ⟨h.os,h.tape,h.output,h.size,fun k hk hn=>h.block k hk (fun h2=>hn (List.mem_append_right _ h2)),fun k hk=>by
   rcases List.mem_append.1 hk with h2 | h2
   ·exact .inl (List.mem_append_left _ h2)
   ·exact (h.new k h2).imp (List.mem_append_right _) id⟩
theorem Turn.wide {w w':World} {b b' c c':List (Option Nat)} (h:Turn b b' w w') (h1:∀ k,some k∈b→some k∈c) (h2:∀ k,some k∈c'→some k∈b'∨some k∈c):Turn c c' w w' :=
 ⟨h.os,h.tape,h.output,h.size,fun k hk hn=>h.block k hk (fun h3=>hn (h1 k h3)),fun k hk=>by
   rcases h2 k hk with h3 | h3
   ·exact (h.new k h3).imp (h1 k) id
   ·exact .inl h3⟩
theorem Turn.grown {w w':World} {m:Nat} (h:w.grownBy w' (some m)):Turn [some m] [some m] w w' :=
 ⟨h.os,h.tape,h.output,h.size,fun k hk hn=>h.block k hk (fun e=>hn (by rw [e];exact List.mem_singleton.2 rfl)),fun k hk=>.inl hk⟩
theorem mem_lb {g m1 m2 k:Nat}:some k∈lb g m1 m2↔k=g∨k=m1∨k=m2:=by
 simp [lb]
section
variable {w w':World} {b b':List (Option Nat)} {gd g m1 m2:Nat} {R:Rw}
theorem LR.ne1 (h:LR w b gd g m1 m2 R):g≠m1:=has_map h.has h.map1
theorem LR.ne2 (h:LR w b gd g m1 m2 R):g≠m2:=has_map h.has h.map2
theorem LR.off (h:LR w b gd g m1 m2 R):some g∉b∧some m1∉b∧some m2∉b :=
 ⟨fun h2=>h.apart g h2 (mem_lb.2 (.inl rfl)),fun h2=>h.apart m1 h2 (mem_lb.2 (.inr (.inl rfl))),fun h2=>h.apart m2 h2 (mem_lb.2 (.inr (.inr rfl)))⟩
theorem LR.lt (h:LR w b gd g m1 m2 R) {k:Nat} (hk:some k∈b++lb g m1 m2):k<w.heap.size:=by
 rcases List.mem_append.1 hk with h2 | h2
 ·exact h.disk.lt h2
 ·rcases mem_lb.1 h2 with rfl | rfl | rfl
  ·exact h.has.lt
  ·exact h.map1.lt
  ·exact h.map2.lt
theorem LR.below (h:LR w b gd g m1 m2 R) (hb:Below w.heap.size w w'):LR w' b gd g m1 m2 R :=
 ⟨h.disk.below hb,h.has.belowS hb,h.map1.below hb,h.map2.below hb,h.ne,h.apart⟩
theorem LR.far {c c':List (Option Nat)} (h:LR w b gd g m1 m2 R) (ht:Turn c c' w w') (hd:Disj c (b++lb g m1 m2)):LR w' b gd g m1 m2 R :=
 ⟨h.disk.turn ht fun k hk h2=>hd k hk (List.mem_append_left _ h2),h.has.turn ht fun h2=>hd g h2 (List.mem_append_right _ (mem_lb.2 (.inl rfl))),
   h.map1.turn ht fun h2=>hd m1 h2 (List.mem_append_right _ (mem_lb.2 (.inr (.inl rfl)))),h.map2.turn ht fun h2=>hd m2 h2 (List.mem_append_right _ (mem_lb.2 (.inr (.inr rfl)))),h.ne,h.apart⟩
theorem LR.onDisk {D':Dk} (h:LR w b gd g m1 m2 R) (hD:DP w' b' gd D') (ht:Turn b b' w w'):LR w' b' gd g m1 m2 { R with D:=D' }∧Turn (b++lb g m1 m2) (b'++lb g m1 m2) w w':=by
 obtain ⟨h1,h2,h3⟩:=h.off
 refine ⟨⟨hD,h.has.turn ht h1,h.map1.turn ht h2,h.map2.turn ht h3,h.ne,fun k hk h4=>?_⟩,ht.left _⟩
 rcases ht.new k hk with h5 | h5
 ·exact h.apart k h5 h4
 ·have:=h.lt (List.mem_append_right b h4);omega
theorem Turn.cell (g i:Nat) (u:Value) (w:World):Turn [some g] [some g] w (w.setCell ⟨g,i,none⟩ u):=Turn.grown (grownBy_setCell ⟨g,i,none⟩ u)
theorem LR.set (h:LR w b gd g m1 m2 R) (i:Nat) (u:Value) (R':Rw) (hc:(rwCells gd m1 m2 R).setIfInBounds i u=rwCells gd m1 m2 R') (hD:R'.D=R.D) (h1:MP w m1 R'.nf R'.f1) (h2:MP w m2 R'.kf R'.f2) :
 LR (w.setCell ⟨g,i,none⟩ u) b gd g m1 m2 R'∧Turn (b++lb g m1 m2) (b++lb g m1 m2) w (w.setCell ⟨g,i,none⟩ u):=by
 have ht:=Turn.cell g i u w
 refine ⟨⟨hD ▸ h.disk.turn ht fun k hk h2=>?_,hc ▸ h.has.set i u,h1.turn ht fun h3=>?_,h2.turn ht fun h3=>?_,h.ne,h.apart⟩,ht.wide (fun k hk=>?_) (fun k hk=>.inr hk)⟩
 ·have:k=g:=by simpa using hk
  subst this
  exact h.off.1 h2
 ·exact h.ne1 (by simpa using h3:m1=g).symm
 ·exact h.ne2 (by simpa using h3:m2=g).symm
 ·have:k=g:=by simpa using hk
  exact List.mem_append_right _ (mem_lb.2 (.inl this))
end
end Go.Proofs.YtjihboddejaelaaGreat
namespace Go.Proofs.YtjihboddejaelaaGreat
open Go.RowKit
open Go.BigFrame
open Go.Maps
theorem Turn.belowN {w w':World} {b:List (Option Nat)} (h:Turn [] b w w'):Below w.heap.size w w':=⟨h.os,h.tape,h.output,h.size,fun k hk=>h.block k hk (fun h2=>by cases h2)⟩
theorem Turn.newN {w w':World} {b:List (Option Nat)} (h:Turn [] b w w'):∀ k,some k∈b→w.heap.size≤k:=fun k hk=>by
 rcases h.new k hk with h2 | h2
 ·cases h2
 ·exact h2
theorem disj_turn {w w':World} {x x' y:List (Option Nat)} (hd:Disj x y) (ht:Turn x x' w w') (hy:∀ k,some k∈y→k<w.heap.size):Disj x' y:=fun k hk h2=>by
 rcases ht.new k hk with h3 | h3
 ·exact hd k h3 h2
 ·have:=hy k h2;omega
end Go.Proofs.YtjihboddejaelaaGreat
namespace Go.Proofs.YtjihboddejaelaaGreat
open Go.RowKit
open Go.BigFrame
def AS (w:World) (A:Option Addr) (n:Nat) (acts:List ActV):Prop :=
 acts.length=n∧(0<n→∃ b off,A=some ⟨b,off,none⟩∧b<w.heap.size∧∀ i a,acts[i]? = some a→∀ j u,a.arr[j]? = some u→w.cell? ⟨b,off+i*8+j,none⟩=some u)∧∀ a∈acts,a.Ok w
theorem AS.take {w:World} {A:Option Addr} {n:Nat} {acts:List ActV} (h:AS w A n acts) {k:Nat} (hk:k≤n):AS w A k (acts.take k) :=
 ⟨by rw [List.length_take,h.1];omega,fun hn=>by
   obtain ⟨b,off,hA,hl,hc⟩:=h.2.1 (by omega)
   exact ⟨b,off,hA,hl,fun i v hv=>hc i v (by
    rw [List.getElem?_take] at hv
    split at hv
    ·exact hv
    ·cases hv)⟩,fun a ha=>h.2.2 a (List.mem_of_mem_take ha)⟩
theorem slice_short (A:Option Addr) (m c a:Nat) (h:a≤c) (w:World):(Instr.sliceAt 52 (.slice A m c) none (some (.int .i64 a)) none).run Tryz.prog w = .ok (.slice A a c) w:=by
 have h1:(0:Int)≤(a:Int):=by omega
 have h2:(a:Int)≤(c:Int):=by omega
 go_simp
set_option maxHeartbeats 400000 in
theorem law_short (A:Option Addr) (n c:Nat) (hc:n≤c) (w:World):Calls Tryz.prog 21 #[.slice A n c] w fun e w'=>e = .returned (.slice A (min n 250) c)∧w=w':=by
 by_cases h:n≤250
 ·have E:=Lib.hid (show min n 250=n by omega)
  rw [E.out]
  have hm:min (n:Int) 250=(n:Int):=by omega
  have hs:=fun w=>slice_short A n c n hc w
  go_enter Tryz.func21,Tryz.ntmps21
  go_wp2_with fail
  go_ret
  exact ⟨rfl,rfl⟩
 ·have E:=Lib.hid (show min n 250=250 by omega)
  rw [E.out]
  have hm:min (n:Int) 250=250:=by omega
  have hs:=fun w=>slice_short A n c 250 (by omega) w
  go_enter Tryz.func21,Tryz.ntmps21
  go_wp2_with fail
  go_ret
  exact ⟨rfl,rfl⟩
end Go.Proofs.YtjihboddejaelaaGreat
namespace Go.Proofs.YtjihboddejaelaaGreat
open Go.ChangeShapes Go.WideShapes Go.ChangeAt Go.RowKit
theorem own2:ownKnob Tryz.prog.godebug=none:=by kernel_rfl
theorem laidOut2:laidOutB Tryz.prog=true:=by kernel_rfl
theorem cellsInt2 : Tryz.prog.cellsOf 3 = 1:=by kernel_rfl
theorem cellsString2 : Tryz.prog.cellsOf 9 = 1:=by kernel_rfl
theorem cellsInts2 : Tryz.prog.cellsOf 43 = 1:=by kernel_rfl
theorem cellsTexts2 : Tryz.prog.cellsOf 44 = 1:=by kernel_rfl
theorem bytesInt2 : Tryz.prog.bytesOf 3 = 8:=by kernel_rfl
theorem spot_none {W:World} {a:Addr} {u:Value} (c0:W.cell? (a.add 0)=some u):a.spot=none∧a.block<W.heap.size:=by
 have hs:a.spot=none:=by
  unfold World.cell? at c0
  cases hsp:a.spot with
  | none=>rfl
  | some q =>
    exfalso
    have:(a.add 0).spot=some q:=by simp [Addr.add,hsp]
    rw [this] at c0
    split at c0 <;> simp at c0
 refine ⟨hs, ?_⟩
 obtain ⟨b,off,spot⟩:=a
 simp only at hs
 subst hs
 unfold World.cell? at c0
 rcases Nat.lt_or_ge b W.heap.size with h1 | h1
 ·exact h1
 ·rw [show ((⟨b,off,none⟩:Addr).add 0).block=b from rfl,Array.getElem?_eq_none h1] at c0
  cases c0
section
variable {H:Type} {enc:TypeId×Value→H} {W:World}
theorem trod_ints {fuel:Nat} {cs:List Value} {x:DataW H×List MemPlace} (h:DataW.trod enc Tryz.prog W 0 (fun _=>true) true fuel 43 cs=some x) :
 ∃ (A:Option Addr) (n c:Nat) (l:List Int),cs=[.slice A n c]∧IS W A n l∧(0<n→∀ k,blkOf A=some k→k<W.heap.size)∧n≤c∧((c=0∧x.1 = .nil)∨∃ e r,x.1 = .slice e r∧e.length+r.length=c):=by
 rcases Go.Deep.open_slice1 Tryz.underlying43 cellsInt2 h with ⟨hcs,hx⟩ | ⟨a,len,cap,m,k,V,D,Pl,hcs,_,hl,hm,hmm,hx,hi⟩
 ·subst hx
  exact ⟨none,0,0,[],hcs,⟨rfl,fun h=>absurd h (by omega)⟩,(fun _ k hk=>by cases hk),Nat.le_refl _,.inl ⟨rfl,rfl⟩⟩
 ·simp only [if_true] at hmm
  subst hmm
  subst hx
  have hv:∀ i,i<m→∃ z:Int,V i = .int .i64 z:=fun i him=>by
   obtain ⟨z,e0,_,_⟩:=DataW.trod_int Tryz.underlying3 (hi i him).2
   simp at e0;exact ⟨z,e0⟩
  by_cases hm0:m=0
  ·subst hm0
   have:len=0:=by omega
   subst this
   exact ⟨some a,0,0,[],hcs,⟨rfl,fun h=>absurd h (by omega)⟩,fun h=>absurd h (by omega),Nat.le_refl _,.inr ⟨[],[],rfl,rfl⟩⟩
  ·have c0:=(hi 0 (by omega)).1
   obtain ⟨hs,hb⟩:=spot_none c0
   obtain ⟨b,off,spot⟩:=a
   simp only at hs hb
   subst hs
   obtain ⟨Z,hZ⟩:∃ Z:Nat→Int,∀ i,i<m→V i = .int .i64 (Z i):=⟨fun i=>if h:i<m then (hv i h).choose else 0,fun i hi=>by have:=(hv i hi).choose_spec;simp only [dif_pos hi];exact this⟩
   refine ⟨some ⟨b,off,none⟩,len,m,(List.range len).map Z,hcs,⟨by simp,fun _=>⟨b,off,rfl,hb,fun i z hz=>?_⟩⟩,(fun _ k hk=>by cases hk;exact hb),hl,.inr ⟨_,_,rfl,by simp;omega⟩⟩
   have hin:i<len:=by
    have:=(List.getElem?_eq_some_iff.1 hz).1
    simpa using this
   rw [List.getElem?_map,List.getElem?_range hin] at hz
   have h2:=(hi i (by omega)).1
   rw [addr_add,hZ i (by omega)] at h2
   rw [h2]
   simp at hz
   rw [hz]
end
theorem weightsAll_memD {H:Type} {P:Program} {e:TypeId} {d:DataW H}:∀ {l:List (DataW H)},d∈l→∀ n∈d.weights P e,n∈DataW.weightsAll P e l
 | x :: l,hd,n,hn=>by
   simp only [DataW.weightsAll,List.mem_append]
   rcases List.mem_cons.1 hd with rfl | h
   ·exact Or.inl hn
   ·exact Or.inr (weightsAll_memD h n hn)
theorem wf_high {n:Int} (h:(Lit.int .i64 n).wf=true):n≤9223372036854775807:=by
 have : -9223372036854775808≤n∧n≤9223372036854775807:=by
  simpa [Lit.wf,IntKind.min,IntKind.max,IntKind.bits,IntKind.signed] using h
 exact this.2
end Go.Proofs.YtjihboddejaelaaGreat
namespace Go.Proofs.YtjihboddejaelaaGreat
open Go.ChangeShapes Go.WideShapes Go.ChangeAt Go.RowKit
theorem cellsAct : Tryz.prog.cellsOf 61 = 8:=by kernel_rfl
section
variable {H:Type} {enc:TypeId×Value→H} {W:World}
structure ActR (W:World) (a:ActV) (y:DataW H):Prop where
 keep:IS W a.kA a.kn a.ks
 lt:0<a.kn→∀ k,blkOf a.kA=some k→k<W.heap.size
 cap:a.kn≤a.kc
 s:a.s.size≤maxLen
 n:(Lit.int .i64 a.n).wf=true
 f:(Lit.int .i64 a.f).wf=true
 data:∃ x0 x1 x2 x3 x4 x5 kd cd,y = .agg [x0,x1,x2,x3,x4,x5,kd,cd]∧((a.kc=0∧kd = .nil)∨∃ e r,kd = .slice e r∧e.length+r.length=a.kc)
set_option maxRecDepth 100000 in
theorem trod_act {fuel:Nat} {cs:List Value} {x:DataW H×List MemPlace} (h:DataW.trod enc Tryz.prog W 0 (fun _=>true) true fuel 61 cs=some x):∃ a:ActV,cs=a.arr.toList∧ActR W a x.1:=by
 obtain ⟨xs,n,_,hx,hl,hlen,hf⟩:=DataW.trod_struct Tryz.underlying61 h
 rw [cellsAct] at hl
 match cs,hl,xs,hlen with
 | [c0,c1,c2,c3,c4,c5,c6,c7],_,[y0,y1,y2,y3,y4,y5,y6,y7],_ =>
   have g0:DataW.trod enc Tryz.prog W 0 (fun _=>true) true n 3 (([c0,c1,c2,c3,c4,c5,c6,c7].drop 0).take (Tryz.prog.cellsOf 3))=some y0:=hf 0 _ rfl
   have g1:DataW.trod enc Tryz.prog W 0 (fun _=>true) true n 3 (([c0,c1,c2,c3,c4,c5,c6,c7].drop 1).take (Tryz.prog.cellsOf 3))=some y1:=hf 1 _ rfl
   have g2:DataW.trod enc Tryz.prog W 0 (fun _=>true) true n 3 (([c0,c1,c2,c3,c4,c5,c6,c7].drop 2).take (Tryz.prog.cellsOf 3))=some y2:=hf 2 _ rfl
   have g3:DataW.trod enc Tryz.prog W 0 (fun _=>true) true n 3 (([c0,c1,c2,c3,c4,c5,c6,c7].drop 3).take (Tryz.prog.cellsOf 3))=some y3:=hf 3 _ rfl
   have g4:DataW.trod enc Tryz.prog W 0 (fun _=>true) true n 9 (([c0,c1,c2,c3,c4,c5,c6,c7].drop 4).take (Tryz.prog.cellsOf 9))=some y4:=hf 4 _ rfl
   have g5:DataW.trod enc Tryz.prog W 0 (fun _=>true) true n 9 (([c0,c1,c2,c3,c4,c5,c6,c7].drop 5).take (Tryz.prog.cellsOf 9))=some y5:=hf 5 _ rfl
   have g6:DataW.trod enc Tryz.prog W 0 (fun _=>true) true n 43 (([c0,c1,c2,c3,c4,c5,c6,c7].drop 6).take (Tryz.prog.cellsOf 43))=some y6:=hf 6 _ rfl
   have g7:DataW.trod enc Tryz.prog W 0 (fun _=>true) true n 44 (([c0,c1,c2,c3,c4,c5,c6,c7].drop 7).take (Tryz.prog.cellsOf 44))=some y7:=hf 7 _ rfl
   simp only [cellsInt2,cellsString2,cellsInts2,cellsTexts2,List.drop_zero,List.drop_succ_cons,List.take_succ_cons,List.take_zero] at g0 g1 g2 g3 g4 g5 g6 g7
   obtain ⟨a0,e0,h0,w0⟩:=DataW.trod_int Tryz.underlying3 g0
   obtain ⟨a1,e1,h1,w1⟩:=DataW.trod_int Tryz.underlying3 g1
   obtain ⟨a2,e2,h2,w2⟩:=DataW.trod_int Tryz.underlying3 g2
   obtain ⟨a3,e3,h3,w3⟩:=DataW.trod_int Tryz.underlying3 g3
   obtain ⟨s4,e4,h4,w4⟩:=DataW.trod_string Tryz.underlying9 g4
   obtain ⟨s5,e5,h5,w5⟩:=DataW.trod_string Tryz.underlying9 g5
   obtain ⟨A6,n6,k6,l6,e6,i6,b6,c6',d6⟩:=trod_ints g6
   obtain ⟨A7,n7,k7,e7⟩:∃ A n k,c7 = .slice A n k:=by
    rcases Go.Deep.open_slice1 Tryz.underlying44 cellsString2 g7 with ⟨hcs,_⟩ | ⟨a,len,cap,_,_,_,_,_,hcs,_⟩
    ·simp at hcs;exact ⟨_,_,_,hcs⟩
    ·simp at hcs;exact ⟨_,_,_,hcs⟩
   simp at e0 e1 e2 e3 e4 e5 e6
   subst e0 e1 e2 e3 e4 e5 e6 e7 hx
   exact ⟨⟨a0,a1,a2,a3,s4,s5,A6,n6,k6,l6,A7,n7,k7⟩,rfl,i6,b6,c6',w4,w3,w1,⟨_,_,_,_,_,_,_,_,rfl,d6⟩⟩
theorem open_acts {A:Option Addr} {n c:Nat} {d:DataW H} {p:List MemPlace} (h:DataW.Trod enc Tryz.prog W 0 (fun _=>true) true 52 (.slice A n c) d p) :
 ∃ acts:List ActV,acts.length=n∧(0<n→∃ b off,A=some ⟨b,off,none⟩∧b<W.heap.size∧∀ i a,acts[i]? = some a→∀ j u,a.arr[j]? = some u→W.cell? ⟨b,off+i*8+j,none⟩=some u)∧n≤c ∧
   ∀ a∈acts,∃ y elems rest,d = .slice elems rest∧y∈elems∧ActR W a y:=by
 obtain ⟨fuel,hf⟩:=h
 rcases Go.Deep.open_slice Tryz.underlying52 hf with ⟨hcs,hx⟩ | ⟨a,len,cap,m,k,D,Pl,hcs,_,hl,hm,hmm,hx,hi⟩
 ·simp [Value.cells] at hcs
  obtain ⟨rfl,rfl,rfl⟩:=hcs
  exact ⟨[],rfl,(fun h=>absurd h (by omega)),Nat.le_refl _,fun a ha=>by cases ha⟩
 ·simp [Value.cells] at hcs
  obtain ⟨rfl,rfl,rfl⟩:=hcs
  simp only [if_true] at hmm
  subst hmm
  rw [cellsAct] at hi hx
  simp only [Prod.mk.injEq] at hx
  have hv:∀ i,i<m→∃ v:ActV,ActR W v (D i)∧∀ j u,v.arr[j]? = some u→W.cell? (a.add (i*8+j))=some u:=fun i him=>by
   obtain ⟨cs',h1,h2⟩:=hi i him
   obtain ⟨v,rfl,hr⟩:=trod_act h2
   obtain ⟨_,hlen,hcell⟩:=World.cells?_some h1
   refine ⟨v,hr,fun j u hu=>?_⟩
   have hj:j<8:=by
    have:=(Array.getElem?_eq_some_iff.1 hu).1
    simpa [ActV.arr] using this
   rw [← Go.Deep.add_add,hcell j hj]
   simpa using hu
  obtain ⟨V,hV⟩:∃ V:Nat→ActV,∀ i,i<m→ActR W (V i) (D i)∧∀ j u,(V i).arr[j]? = some u→W.cell? (a.add (i*8+j))=some u :=
   ⟨fun i=>if h:i<m then (hv i h).choose else ⟨0,0,0,0,⟨#[]⟩,⟨#[]⟩,none,0,0,[],none,0,0⟩,fun i hi=>by have:=(hv i hi).choose_spec;simp only [dif_pos hi];exact this⟩
  refine ⟨(List.range n).map V,by simp,fun hn=>?_,hl, ?_⟩
  ·have c0:=(hV 0 (by omega)).2 0 _ rfl
   rw [show 0*8+0=0 from rfl] at c0
   obtain ⟨hs,hb⟩:=spot_none c0
   obtain ⟨b,off,spot⟩:=a
   simp only at hs hb
   subst hs
   refine ⟨b,off,rfl,hb,fun i v hi j u hu=>?_⟩
   have hin:i<n:=by
    have:=(List.getElem?_eq_some_iff.1 hi).1
    simpa using this
   have hvi:V i=v:=by
    rw [List.getElem?_map,List.getElem?_range hin] at hi
    simpa using hi
   have g:=(hV i (by omega)).2
   rw [hvi] at g
   have:=g j u hu
   rw [addr_add] at this;simpa [Nat.add_assoc] using this
  ·intro v hv
   obtain ⟨i,hi,rfl⟩:=List.mem_map.1 hv
   have hin:=List.mem_range.1 hi
   exact ⟨D i,_,_,hx.1,List.mem_map.2 ⟨i,hi,rfl⟩,(hV i (by omega)).1⟩
end
theorem act_len {H:Type} {W:World} {ts:List TypeId} {ds:List (DataW H)} (h:(DataW.weightsEach Tryz.prog ts ds).all (·≤ reachBytes)=true) {j:Nat} {elems rest:List (DataW H)} (ht:ts[j]? = some 52) (hd:ds[j]? = some (.slice elems rest))
 {y:DataW H} (hy:y∈elems) {a:ActV} (ha:ActR W a y):a.kn*8≤140737488355328:=by
 obtain ⟨x0,x1,x2,x3,x4,x5,kd,cd,rfl,hk⟩:=ha.data
 have hcap:=ha.cap
 have hr:reachBytes=140737488351232:=rfl
 rcases hk with ⟨h0,_⟩ | ⟨e,r,rfl,hlen⟩
 ·have:a.kn=0:=by omega
  rw [this];omega
 ·have hw:(e.length+r.length) * Tryz.prog.bytesOf 3 ≤ reachBytes:=by
   refine of_decide_eq_true (List.all_eq_true.1 h _ (DataW.weights_mem_each ht hd _ ?_))
   simp only [DataW.weights,Tryz.underlying52,List.mem_cons,List.mem_append]
   refine Or.inr (Or.inl (weightsAll_memD hy _ ?_))
   rw [DataW.weights,Tryz.underlying61]
   refine DataW.weights_mem_each (j:=6) (t:=43) rfl rfl _ ?_
   rw [DataW.weights,Tryz.underlying43]
   exact List.mem_cons_self ..
  rw [bytesInt2,hlen,hr] at hw
  omega
theorem act_ok {H:Type} {W:World} {a:ActV} {y:DataW H} (h:ActR W a y) (hl:a.kn*8≤140737488355328):a.Ok W:=⟨h.keep,h.lt,hl,h.s,wf_high h.n⟩
theorem wf_both {n:Int} (h:(Lit.int .i64 n).wf=true) : -9223372036854775808≤n∧n≤9223372036854775807:=by
 simpa [Lit.wf,IntKind.min,IntKind.max,IntKind.bits,IntKind.signed] using h
theorem act_in {H:Type} {W:World} {a:ActV} {y:DataW H} (h:ActR W a y):(-9223372036854775808≤a.n∧a.n≤9223372036854775807)∧(-9223372036854775808≤a.f∧a.f≤9223372036854775807):=⟨wf_both h.n,wf_both h.f⟩
end Go.Proofs.YtjihboddejaelaaGreat
