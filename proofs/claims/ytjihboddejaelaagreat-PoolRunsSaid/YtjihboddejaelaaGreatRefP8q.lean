/-
  The reference's pool: Commit.
-/
import Derived.Test.YtjihboddejaelaaGreatPr17
import Derived.Test.YtjihboddejaelaaGreatPr20
import Derived.Test.YtjihboddejaelaaGreatPoolEq
set_option linter.unusedVariables false
set_option linter.unusedSimpArgs false
namespace Go.Proofs.YtjihboddejaelaaGreat
open Go.RowKit
open Go.BigFrame
def KPost2 (u:World) (rd r q:Nat) (x:Qx) (P':Pl) (v:Value) (e:Ending) (w':World):Prop :=
 e = .returned v∧∃ x':Qx,QM w' rd r q x' P'∧Turn x.all x'.all u w'∧x'.T=x.T∧∀ k,some k∈x.k→w'.heap[k]? = u.heap[k]?
theorem QM.onLogK {w w':World} {rd r q:Nat} {x:Qx} {P:Pl} {b' c':List (Option Nat)} {L':Lg} {v:Value} (h:QM w rd r q x P) (hl:LQ w' b' rd r c' L') (ht:Turn (x.b++x.c) (b'++c') w w'):KPost2 w rd r q x { P with L:=L' } v (.returned v) w':=by
 obtain ⟨q1,q2⟩:=h.onLog hl ht
 exact ⟨rfl,_,q1,q2,rfl,fun k hk=>ht.block k (h.lt (List.mem_append_right _ hk)) (fun h2=>h.disj k h2 hk)⟩
theorem qm_AppendK {w:World} {rd r q:Nat} {x:Qx} {P:Pl} (h:QM w rd r q x P) (ok:P.L.ok) (hfit:Fit P.L.D 1) (n:Int) (s:ByteArray) (hs:s.size≤9223372036854775807) :
 Calls Tryz.prog 151 #[.pointer (some ⟨r,0,none⟩),.int .i64 n,.string s] w (KPost2 w rd r q x { P with L:=P.L.append n s } (.int .i64 (P.L.appendE n s))):=by
 refine (ref_Append x.b rd r x.c P.L n s w h.log hfit (by have:=ok.len;omega) hs).mono ?_
 rintro e w' ⟨rfl,b',c',hl,ht⟩
 exact h.onLogK hl ht
theorem qm_CommitK {w:World} {rd r q:Nat} {x:Qx} {P:Pl} (h:QM w rd r q x P) (ok:P.L.ok) (hfit:Fit P.L.D 4) (n:Int) (s:ByteArray) (p:Int) (hs:s.size≤9223372036854775807) :
 Calls Tryz.prog 67 #[.pointer (some ⟨r,0,none⟩),.int .i64 n,.string s,.int .i64 p] w (KPost2 w rd r q x { P with L:=P.L.commit n s p } (.int .i64 (P.L.commitE n s p))):=by
 refine (ref_Commit x.b rd r x.c P.L n s p w h.log hfit ok.slot ok.number (by have:=ok.len;omega) hs).mono ?_
 rintro e w' ⟨rfl,b',c',hl,ht⟩
 exact h.onLogK hl ht
theorem QM.frameAt {w' w:World} {rd r q g k i:Nat} {x x':Qx} {P:Pl} {f:Pf} (h:QM w' rd r q x' P) (hk:w'.heap[q]? = w.heap[q]?) (hc:w.cell? ⟨q,2,none⟩=some (.slice (some ⟨g,0,none⟩) P.ring.length k)) (hf:P.ring[i]? = some f) :
 w'.cell? ⟨q,2,none⟩=some (.slice (some ⟨g,0,none⟩) P.ring.length k)∧g<w'.heap.size∧(∀ i,w'.frozen? ⟨g,i,none⟩=false)∧w'.cell? ⟨g,i*4+3,none⟩=some (.bool f.dirty):=by
 have h1:w'.cell? ⟨q,2,none⟩=some (.slice (some ⟨g,0,none⟩) P.ring.length k):=(World.cell?_of_block hk).trans hc
 obtain ⟨A,k',c2,_,hS,_⟩:=h.frames
 have e:A=some ⟨g,0,none⟩:=by
  have:=Option.some.inj (c2.symm.trans h1)
  cases this;rfl
 subst e
 have hi:=(List.getElem?_eq_some_iff.1 hf).1
 obtain ⟨g',e2,hg,hfz,hcc⟩:=hS.2 (by omega)
 cases e2
 exact ⟨h1,hg,hfz,(hcc i f hf).2.2.2⟩
theorem qm_Checkpoint {w:World} {rd r q:Nat} {x:Qx} {P:Pl} (h:QM w rd r q x P) (ok:P.L.ok) (hfit:Fit P.L.D 70000) (hd:P.L.D.down=false) :
 Calls Tryz.prog 162 #[.pointer (some ⟨r,0,none⟩)] w (QPost2 w rd r q x 0 { P with L:=P.L.checkpoint.1 } (.int .i64 P.L.checkpoint.2)):=by
 refine (ref_Checkpoint x.b rd r x.c P.L w h.log hfit hd ok.slot ok.number (by have:=ok.pages;omega) (by have:=ok.len;omega) (fun f hf=>Nat.le_of_eq (ok.frames f hf).2)).mono ?_
 rintro e w' ⟨rfl,b',c',hl,ht⟩
 obtain ⟨q1,q2⟩:=h.onLog hl ht
 exact ⟨rfl,_,q1,q2,Nat.le_add_right ..⟩
theorem qm_Back {w:World} {rd r q:Nat} {x:Qx} {P:Pl} (h:QM w rd r q x P) (ok:P.L.ok) :
 Calls Tryz.prog 165 #[.pointer (some ⟨r,0,none⟩)] w (QPost2 w rd r q x 0 { P with L:=P.L.back } (.tuple #[])):=by
 refine (ref_Back x.b rd r x.c P.L w h.log ok.kept).mono ?_
 rintro e w' ⟨rfl,b',c',hl,ht⟩
 obtain ⟨q1,q2⟩:=h.onLog hl ht
 exact ⟨rfl,_,q1,q2,Nat.le_add_right ..⟩
def isD (F:List Pf) (n:Nat):Bool:=F.any (fun f=>f.n == n && f.dirty)
def dl (F:List Pf) (n:Nat):List Nat:=(List.range n).filter (isD F)
theorem isD_iff {F:List Pf} {n:Nat}:isD F n=true↔∃ f∈F,f.n=n∧f.dirty=true:=by
 unfold isD;rw [List.any_eq_true]
 exact ⟨fun ⟨f,h1,h2⟩=>⟨f,h1,by simpa using h2⟩,fun ⟨f,h1,h2⟩=>⟨f,h1,by simpa using h2⟩⟩
theorem dl_succ (F:List Pf) (n:Nat):dl F (n+1)=if isD F n then dl F n++[n] else dl F n:=by
 unfold dl
 rw [List.range_succ,List.filter_append,List.filter_cons,List.filter_nil]
 split <;> simp
theorem dl_len (F:List Pf) (n:Nat):(dl F n).length≤n:=by
 have:=List.length_filter_le (isD F) (List.range n)
 rw [List.length_range] at this;exact this
theorem dirty_dl {P:Pl} (ok:P.ok):dirtyN P.ring=dl P.ring P.pages:=by
 refine perm_sorted ?_ ?_ ?_
 ·have:=List.pairwise_mergeSort (le:=fun a b:Nat=>decide (a≤b)) (fun a b c h1 h2=>by simp at h1 h2 ⊢;omega) (fun a b=>by simp;omega) ((P.ring.filter (·.dirty)).map (·.n))
  exact this.imp fun h=>by simpa using h
 ·exact (List.pairwise_lt_range.imp fun h=>Nat.le_of_lt h).filter _
 ·refine (List.perm_ext_iff_of_nodup ?_ ?_).2 fun n=>?_
  ·refine ((List.mergeSort_perm _ _).nodup_iff).2 ?_
   have:=ok.names
   exact this.sublist (List.filter_sublist.map _)
  ·exact List.nodup_range.filter _
  ·unfold dirtyN dl
   rw [List.mem_mergeSort,List.mem_map,List.mem_filter,List.mem_range,isD_iff]
   constructor
   ·rintro ⟨f,hf,rfl⟩
    obtain ⟨h1,h2⟩:=List.mem_filter.1 hf
    exact ⟨ok.pages f h1,f,h1,rfl,h2⟩
   ·rintro ⟨_,f,h1,rfl,h2⟩
    exact ⟨f,List.mem_filter.2 ⟨h1,h2⟩,rfl⟩
theorem isD_at {F:List Pf} {i:Nat} {f:Pf} (hn:(F.map (·.n)).Nodup) (hf:F[i]? = some f):isD F f.n=f.dirty:=by
 have hm:=List.mem_of_getElem? hf
 cases hd:f.dirty
 ·cases h:isD F f.n
  ·rfl
  ·obtain ⟨g,h1,h2,h3⟩:=isD_iff.1 h
   rw [same_frame hn h1 hm h2,hd] at h3;cases h3
 ·exact isD_iff.2 ⟨f,hm,rfl,hd⟩
theorem isD_none {F:List Pf} {n:Nat} (h:findN n F=none):isD F n=false:=by
 cases hd:isD F n
 ·rfl
 ·obtain ⟨g,h1,h2,_⟩:=isD_iff.1 hd
  exact absurd (by rw [h2]) (find_none h g h1)
theorem NL.of_own {w:World} {b n c:Nat} {A:Option Addr} {l:List Nat} {e:TypeId} (h:w.ownsRow b e 1 (.slice A n c) n (natVs l)):NL w A l:=fun h0=>by
 have hl:l.length=n:=by have:=h.1;simpa [natVs] using this
 rcases h.2 with ⟨h1,h2⟩ | ⟨g,cap,cur,hv,hb,hg,hn,_⟩
 ·omega
 ·cases hv
  refine ⟨g,rfl,(Array.getElem?_eq_some_iff.1 hg).1,fun i k hk=>?_⟩
  have hi:=(List.getElem?_eq_some_iff.1 hk).1
  rw [h.cellAt i (by omega)]
  simp [natVs,hk]
theorem clean_set {F:List Pf} {i:Nat} {f:Pf} (hn:(F.map (·.n)).Nodup) (hf:F[i]? = some f):cleanN f.n F=F.set i { f with dirty:=false }:=by
 obtain ⟨hi,hfi⟩:=List.getElem?_eq_some_iff.1 hf
 apply List.ext_getElem?
 intro j
 unfold cleanN
 rw [List.getElem?_map,List.getElem?_set]
 by_cases hj:i=j
 ·subst hj
  rw [if_pos rfl,if_pos hi,hf]
  show some (if f.n=f.n then _ else f)=_
  rw [if_pos rfl]
 ·rw [if_neg hj]
  cases hg:F[j]? with
  | none=>rfl
  | some g =>
    have hne:¬ g.n=f.n:=fun e=>by
     have h1:(F.map (·.n))[i]? = some f.n:=by rw [List.getElem?_map,hf];rfl
     have h2:(F.map (·.n))[j]? = some f.n:=by rw [List.getElem?_map,hg];exact congrArg some e
     exact hj ((List.getElem?_inj (by simpa using hi) hn).1 (h1.trans h2.symm))
    show some (if g.n=f.n then _ else g)=_
    rw [if_neg hne]
theorem text_at {F:List Pf} {n:Nat} {f:Pf} (h:findN n F=some f):textN n F=f.s:=by unfold textN;rw [h];rfl
theorem idx_mem {F:List Pf} {n:Nat} (h:n∈F.map (·.n)):∃ (i:Nat) (f:Pf),F[i]? = some f∧f.n=n∧findN n F=some f∧idxN n F=i:=by
 rcases idx_cases n F with ⟨h1,_⟩ | ⟨i,f,h1,h2,h3,h4,_⟩
 ·obtain ⟨g,hg,e⟩:=List.mem_map.1 h
  exact absurd (by rw [e]) (find_none h1 g hg)
 ·exact ⟨i,f,h1,by omega,h3,h4⟩
theorem same_nil {T U:List Nat} (h:Same T U):T.length=0↔U=[]:=by
 constructor
 ·intro hT
  cases U with
  | nil=>rfl
  | cons u U =>
    have:=(h u).2 (List.mem_cons_self ..)
    rw [List.eq_nil_of_length_eq_zero hT] at this;cases this
 ·intro hU
  cases T with
  | nil=>rfl
  | cons u T =>
    have:=(h u).1 (List.mem_cons_self ..)
    rw [hU] at this;cases this
set_option maxRecDepth 100000 in
set_option maxHeartbeats 12800000 in
theorem ref_PCommit (rd r q:Nat) (x:Qx) (P:Pl) (w:World) (h:QM w rd r q x P) (ok:P.ok) (hd:P.L.D.down=false) (fit:Fit P.L.D 70300) (hdn:P.flushed.2=0→P.flushed.1.L.D.down=false) :
 Calls Tryz.prog 82 #[.pointer (some ⟨q,0,none⟩)] w (QPost2 w rd r q x 0 P.commit.1 (.int .i64 P.commit.2)):=by
 have HH:=Lib.hid h
 have OK:=Lib.hid ok
 have FIT:=Lib.hid fit
 have HDN:=Lib.hid hdn
 have UP:=Lib.hid hd
 obtain ⟨AT,kt,x4,_,_,_⟩:=h.list
 have xz:=h.head.2.1
 by_cases hT:P.turned=[]
 ·have hl:x.T.length=0:=(same_nil h.same).2 hT
  rw [hl] at x4
  have HE:P.commit=(P,0):=if_pos hT
  rw [HE]
  clear h ok fit hdn hT HE hd hl
  go_enter Tryz.func82,Tryz.ntmps82
  go_wp2_with fail
  go_ret
  exact QPost2.refl HH.out 0
 ·have e0:((x.T.length:Int) == 0)=false:=by
   rw [beq_eq_false_iff_ne]
   intro hx
   exact hT ((same_nil h.same).1 (by omega))
  obtain ⟨RC,hRC⟩:∃ R,P.commit=R:=⟨_,rfl⟩
  have HC:Hid (RC=if dirtyN P.ring=[] then (if (P.get 0).2=0 then Pl.told (Pl.flush [0] (P.get 0).1) else P.get 0) else Pl.told (Pl.flush (dirtyN P.ring) P)):=Lib.hid (hRC.symm.trans (if_neg hT))
  rw [hRC]
  obtain ⟨i0,hi,hz0,hz1,hz2⟩:=info_parts infoInt
  have FL:P.ring.length≤64:=Nat.le_trans ok.full ok.most
  have FD:=Lib.hid (fun w1 (n:Int) (h1:QM w1 rd r q x P)=>ref_find rd r q x P n w1 h1 (by omega))
  have few:=ok.few
  have DE:=Lib.hid (dirty_dl ok)
  clear h ok fit hdn hT hRC hd
  go_enter Tryz.func82,Tryz.ntmps82
  go_wp2_with fail
  go_loopw [3,4] (fun v3 v4 wr=>∃ n:Nat,n≤P.pages∧v4 = .int .i64 n∧wr.ownsRow w.heap.size 3 1 v3 (dl P.ring n).length (natVs (dl P.ring n))∧Below w.heap.size w wr) (fun _ v4 _=>P.pages-(intOf v4).toNat)
  case atStart=>exact ⟨0,Nat.zero_le _,rfl,World.ownsRow_nil _ _ _ _,Below.refl _ _⟩
  case round =>
   obtain ⟨n,hn,rfl,ho,hb⟩:=hrel
   have HRO:=Lib.hid ho
   have HB:=Lib.hid hb
   have HD:=Lib.hid (HH.out.below hb)
   have y3:=HD.out.cells.2.2.1
   have yz:=HD.out.head.2.1
   clear ho hb
   by_cases hn2:n<P.pages
   ·have g0:(n:Int)<(P.pages:Int):=by omega
    rcases idx_cases n P.ring with ⟨c1,c2⟩ | ⟨i,f,c1,c2,c3,c4,c5⟩
    ·have HD2:=Lib.hid (show dl P.ring (n+1)=dl P.ring n by rw [dl_succ,isD_none c1];rfl)
     have FD2:=Lib.hid (FD.out wr n HD.out)
     rw [c2] at FD2
     clear c1 c2
     go_wp2_with (go_at_call 157;(with_reducible refine FD2.out.mono ?_);rintro e w1 ⟨rfl,hb1⟩;have HB1:=Lib.hid (bel_step HB.out hb1 HB.out.size);have HRB:=Lib.hid hb1;clear hb1)
     go_roundw
     case rel=>exact ⟨n+1,by omega,by simp,by rw [HD2.out];exact own_below HRO.out HRB.out,HB1.out⟩
     case measure=>simp [intOf];omega
    ·have hin:f.n=n:=by omega
     have ID:isD P.ring n=f.dirty:=hin ▸ isD_at OK.out.names c1
     have FD2:=Lib.hid (FD.out wr n HD.out)
     rw [c4] at FD2
     have hi3:=(List.getElem?_eq_some_iff.1 c1).1
     obtain ⟨A,k,x2,_,hF,_,_⟩:=HD.out.frames
     obtain ⟨g,rfl,hg,_,hcc⟩:=hF.2 (by omega)
     obtain ⟨a0,a1,a2,a3⟩:=hcc i f c1
     have G1:=Lib.hid (show (dl P.ring n).length+1≤maxLen by have:=dl_len P.ring n;unfold maxLen;omega)
     have G2:=Lib.hid (show ((dl P.ring n).length+1)*8≤140737488355328 by have:=dl_len P.ring n;omega)
     clear hF hcc a0 a1 a2 c1 c2 c3 c4 c5 hin
     cases hdd:f.dirty
     ·rw [hdd] at a3 ID
      have HD2:=Lib.hid (show dl P.ring (n+1)=dl P.ring n by rw [dl_succ,ID];rfl)
      clear hdd ID
      go_wp2_with (go_at_call 157;(with_reducible refine FD2.out.mono ?_);rintro e w1 ⟨rfl,hb1⟩;have HB1:=Lib.hid (bel_step HB.out hb1 HB.out.size);have HRB:=Lib.hid hb1;have y2:=((bcell hb1).1 q 2 yz).trans x2;have d3:=((bcell hb1).1 g (i*4+3) hg).trans a3;have yz1:=Nat.lt_of_lt_of_le yz hb1.size;clear hb1)
      go_roundw
      case rel=>exact ⟨n+1,by omega,by simp,by rw [HD2.out];exact own_below HRO.out HRB.out,HB1.out⟩
      case measure=>simp [intOf];omega
     ·rw [hdd] at a3 ID
      have HD2:=Lib.hid (show dl P.ring (n+1)=dl P.ring n++[n] by rw [dl_succ,ID];rfl)
      clear hdd ID
      go_wp2_with (first | (go_at_call 157;(with_reducible refine FD2.out.mono ?_);rintro e w1 ⟨rfl,hb1⟩;have HB1:=Lib.hid (bel_step HB.out hb1 HB.out.size);have HRB:=Lib.hid (own_below HRO.out hb1);have y2:=((bcell hb1).1 q 2 yz).trans x2;have d3:=((bcell hb1).1 g (i*4+3) hg).trans a3;have yz1:=Nat.lt_of_lt_of_le yz hb1.size;clear hb1) | (at_builtin;go_loud (refine wpList_append_src _ rfl (.tmp 40) (.tmp 42) 43 43 rfl w.heap.size 3 i0 _ 1 8 Tryz.underlying43 hi hz0 hz1 hz2 zeroCellsInt (by decide) _ (dl P.ring n).length (natVs (dl P.ring n)) rfl (HRB.out.alloc _) (.slice (some ⟨_,0,none⟩) 1 1) 1 [.int .i64 n] rfl (Src.ofSlice _ Tryz.underlying43 ⟨_,0,none⟩ 1 1 [.int .i64 n] rfl (World.news_of_block (heap_alloc_new _ _)) (by simp [Value.oneCell'])) G1.out G2.out (Nat.le_trans HB1.out.size (by simp)) ?_);intro v7 w7 hown7 hg7 _ _;have HO7:=Lib.hid hown7;have HB7:=Lib.hid ((HB1.out.alloc HB1.out.size (.cells #[.int .i64 n] 3)).grown hg7 (Nat.le_trans HB1.out.size (by simp)) (fun k hk=>(HRB.out.lt k hk).1));clear hown7 hg7))
      go_roundw
      case rel=>exact ⟨n+1,by omega,by simp,by rw [HD2.out,natVs_snoc,List.length_append];exact HO7.out,HB7.out⟩
      case measure=>simp [intOf];omega
   ·obtain rfl:n=P.pages:=by omega
    have DE2:=DE.out
    rw [← DE2] at HRO
    obtain ⟨AA,cc,hv⟩:=own_slice HRO.out
    subst hv
    have NLe:(dirtyN P.ring).length≤64:=by
     have:(dirtyN P.ring).length=(P.ring.filter (·.dirty)).length:=by unfold dirtyN;rw [List.length_mergeSort,List.length_map]
     have:=List.length_filter_le (·.dirty) P.ring
     omega
    have NS00:∀ n∈dirtyN P.ring,n∈P.ring.map (·.n):=fun n hn=>by
     unfold dirtyN at hn
     rw [List.mem_mergeSort,List.mem_map] at hn
     obtain ⟨f,hf,rfl⟩:=hn
     exact List.mem_map.2 ⟨f,(List.mem_filter.1 hf).1,rfl⟩
    by_cases hNS:dirtyN P.ring=[]
    ·rw [hNS] at HRO
     have HC0:=Lib.hid (HC.out.trans (if_pos hNS))
     have HF0:Hid ((if (P.get 0).2=0 then Pl.flush [0] (P.get 0).1 else P.get 0).2=0→(if (P.get 0).2=0 then Pl.flush [0] (P.get 0).1 else P.get 0).1.L.D.down=false):=Lib.hid (by have:=HDN.out;unfold Pl.flushed at this;rw [if_pos hNS] at this;exact this)
     have US:=Lib.hid (ref_use rd r q x P 0 wr HD.out OK.out UP.out (FIT.out.less (by omega)) (by have:=OK.out.log.len;omega))
     have GOK:=Lib.hid (get_ok OK.out 0)
     have GFT:=Lib.hid (get_fit (k:=70299) FIT.out 0)
     have GL:=Lib.hid (get_last OK.out (x:=0))
     obtain ⟨Q0,hQ0⟩:∃ Q,(P.get 0).1=Q:=⟨_,rfl⟩
     obtain ⟨E,hE⟩:∃ E,(P.get 0).2=E:=⟨_,rfl⟩
     have hPQ:P.get 0=(Q0,E):=by rw [← hQ0,← hE]
     rw [hPQ] at HC0 HF0 US GOK GFT GL
     dsimp only at HC0 HF0 US GOK GFT GL
     rw [hNS]
     clear hQ0 hE hPQ HRO hNS NS00 NLe DE2 HC HDN hn2 hn
     by_cases hE0:E=0
     ·subst hE0
      have HCM:=Lib.hid (HC0.out.trans (if_pos rfl))
      have HFD:=Lib.hid HF0.out
      go_wp2_with (go_at_call 154;(with_reducible refine US.out.mono ?_);rintro en w5 ⟨rfl,x5,hq5,ht5,hn5⟩;have HQ5:=Lib.hid hq5;have HT5:=Lib.hid ((Turn.below x.all HB.out).trans ht5);have HN5:=Lib.hid hn5;clear hq5 ht5 hn5)
      have HAL:=Lib.hid ((Below.refl w5.heap.size w5).alloc (Nat.le_refl _) (.cells #[.int .i64 0] 3))
      have H1:=Lib.hid (HQ5.out.below HAL.out)
      have T1:=Lib.hid (HT5.out.trans (Turn.below _ HAL.out))
      have N1:Hid (x5.T.length≤x.T.length):=Lib.hid HN5.out
      have cw:(w5.alloc (.cells #[.int .i64 0] 3)).cell? ⟨w5.heap.size,0,none⟩=some (.int .i64 0):=(Has.new w5 3 #[.int .i64 0]).cell 0
      obtain ⟨NS,hNSe⟩:∃ NS:List Nat,[0]=NS:=⟨_,rfl⟩
      have NLen:Hid (NS.length=1):=Lib.hid (by rw [← hNSe];rfl)
      have NL1:Hid (NL (w5.alloc (.cells #[.int .i64 0] 3)) (some ⟨w5.heap.size,0,none⟩) NS):=Lib.hid (fun _=>⟨w5.heap.size,rfl,by simp,fun i n hn=>by
       rw [← hNSe] at hn
       cases i with
       | zero=>cases hn;exact cw
       | succ i=>cases hn⟩)
      have NS0:Hid (∀ n∈NS,n∈Q0.ring.map (·.n)):=Lib.hid (fun n hn=>by
       rw [← hNSe] at hn
       obtain ⟨F0,f,hF,hfx,_,_⟩:=GL.out trivial
       rw [List.mem_singleton.1 hn]
       exact List.mem_map.2 ⟨f,by rw [hF];simp,by omega⟩)
      have DIS:Hid (∀ k,(some (⟨w5.heap.size,0,none⟩:Addr)).map (·.block)=some k→some k∉x5.all∧k<(w5.alloc (.cells #[.int .i64 0] 3)).heap.size):=Lib.hid (fun k hk=>by
       cases hk
       exact ⟨fun h2=>by have:=HQ5.out.lt h2;simp at this,by simp⟩)
      obtain ⟨R0,hR0⟩:∃ R,Pl.flush [0] Q0=R:=⟨_,rfl⟩
      simp only [if_pos (trivial:True),hR0] at HCM HFD
      rw [hNSe] at hR0
      have HRR:=Lib.hid hR0
      have OK1:=Lib.hid GOK.out
      have FT1:=Lib.hid (show Fit Q0.L.D (70004+4*(NS.length-0)) from GFT.out.less (by have:=NLen.out;omega))
      have HFD:Hid (R0.2=0→R0.1.L.D.down=false):=Lib.hid (by have:=HFD.out;simpa using this)
      clear hR0 hNSe cw HAL HQ5 HT5 HN5 US GL HC0 HF0 HD y3 yz HB
      generalize (some (⟨w5.heap.size,0,none⟩:Addr))=AA at *
      generalize (w5.alloc (.cells #[.int .i64 0] 3))=W5 at *
      go_loopw [55] (fun v55 wr=>∃ (i:Nat) (x':Qx) (Q:Pl),v55 = .int .i64 i∧i≤1∧QM wr rd r q x' Q∧Turn x.all x'.all w wr∧x'.T.length≤x.T.length∧NL wr AA NS∧(∀ k,AA.map (·.block)=some k→some k∉x'.all∧k<wr.heap.size)∧Pl.flush (NS.drop i) Q=R0∧Q.ok∧Fit Q.L.D (70004+4*(NS.length-i))∧Q.ring.map (·.n)=Q0.ring.map (·.n)) (fun v55 _=>1-(intOf v55).toNat)
      case atStart=>exact ⟨0,x5,Q0,rfl,Nat.zero_le _,H1.out,T1.out,N1.out,NL1.out,DIS.out,HRR.out,OK1.out,FT1.out,rfl⟩
      case round =>
       obtain ⟨i,x1,Q,rfl,hile,hqm,hTn,hnn,hnl,hoff,hfl,hok,hfit,hnm⟩:=hrel
       have HM:=Lib.hid hqm;have HT:=Lib.hid hTn;have HN:=Lib.hid hnn;have HNL:=Lib.hid hnl;have HO:=Lib.hid hoff;have HFL:=Lib.hid hfl;have HOK:=Lib.hid hok;have HFT:=Lib.hid hfit;have HNM:=Lib.hid hnm
       clear hqm hTn hnn hnl hoff hfl hok hfit hnm H1 T1 N1 NL1 DIS HRR OK1 FT1
       have xz1:=HM.out.head.2.1
       have xf1:=HM.out.head.2.2
       obtain ⟨u0,_,u3,_,_,_⟩:=HM.out.cells
       by_cases hi1:i<1
       ·obtain ⟨bk,hAA,hbk,hcell⟩:=HNL.out (by have:=NLen.out;omega)
        subst hAA
        have hin:i<NS.length:=by have:=NLen.out;omega
        obtain ⟨n,hn⟩:∃ n,NS[i]=n:=⟨_,rfl⟩
        have c0:wr.cell? ⟨bk,i,none⟩=some (.int .i64 (n:Int)):=hcell i n (by rw [List.getElem?_eq_getElem hin,hn])
        have hmem:n∈Q.ring.map (·.n):=by rw [HNM.out];exact NS0.out n (hn ▸ List.getElem_mem hin)
        have DR:Hid (NS.drop i=n :: NS.drop (i+1)):=Lib.hid (by rw [List.drop_eq_getElem_cons hin,hn])
        obtain ⟨j,f,hf,hfn,hfd,hix⟩:=idx_mem hmem
        have hQl:Q.ring.length≤64:=Nat.le_trans HOK.out.full HOK.out.most
        have hj:j<Q.ring.length:=(List.getElem?_eq_some_iff.1 hf).1
        have FD2:=Lib.hid (fun u (hb:Below wr.heap.size wr u)=>ref_find rd r q x1 Q n u (HM.out.below hb) (by omega))
        rw [hix] at FD2
        obtain ⟨A,k,x2,_,hF,_,_⟩:=HM.out.frames
        obtain ⟨g,rfl,hg,_,hcc⟩:=hF.2 (by omega)
        obtain ⟨a0,a1,a2,a3⟩:=hcc j f hf
        have TXT:Hid (textN n Q.ring=f.s):=Lib.hid (text_at hfd)
        have CLN:Hid (cleanN n Q.ring=Q.ring.set j { f with dirty:=false }):=Lib.hid (by rw [← hfn];exact clean_set HOK.out.names hf)
        have HFF:=Lib.hid hf
        have FSZ:=Lib.hid (show f.s.size≤9223372036854775807 by have:=HOK.out.size f (List.mem_of_getElem? hf);omega)
        have X2:=Lib.hid x2
        clear hcell hmem hn hfn hfd hix hF hcc a0 a2 a3 hf
        go_upto_region 18 with fail
        refine wp_region_cls (wr) (by kernel_rfl) (by kernel_rfl) (Cls.start _) ?_
        repeat
         first
          | go_big_quiet_skip
          | (go_big_quiet_want;(first | go_big_quiet_op | go_simp);first | go_big_quiet_on | (apply Exists.intro;refine ⟨fun w' hw'=>?_, ?_⟩;(·(first | (with_reducible exact rfl) | ((go_at_call 157;(with_reducible refine (FD2.out _ hw'.bel).mono ?_);rintro e w1 ⟨rfl,hb⟩;exact ⟨rfl,Cls.step hw' hb⟩)) | (obtain ⟨hc,hf⟩:=hw'.facts;go_simp;first | done | (with_reducible exact rfl) | (with_reducible exact ⟨rfl,rfl⟩))));go_big_quiet_on))
        refine wpQuiet_nil ?_
        intro wq hq
        have HQB:=Lib.hid hq
        obtain ⟨hcq,hfq⟩:=hq.facts
        have z0:=(hcq q 0 xz1).trans u0
        have z3:=(hcq q 3 xz1).trans u3
        have z1:=(hcq g (j*4+1) hg).trans a1
        have zz:=Nat.lt_of_lt_of_le xz1 hq.size
        have zg:=Nat.lt_of_lt_of_le hg hq.size
        have ZC:=Lib.hid ((hcq q 2 xz1).trans X2.out)
        clear hq hcq hfq u0 u3 a1 c0
        by_cases hlast:i+1<1
        ·exact absurd hlast (by omega)
        ·have g1:¬ (i:Int)+1<(1:Int):=by omega
         have hdr:NS.drop (i+1)=[]:=List.drop_eq_nil_of_le (by have:=NLen.out;omega)
         obtain ⟨E,hE⟩:∃ E,Q.L.commitE n f.s Q.pages=E:=⟨_,rfl⟩
         obtain ⟨L',hL'⟩:∃ L',Q.L.commit n f.s Q.pages=L':=⟨_,rfl⟩
         have LOK:L'.ok:=by rw [← hL'];exact commit_ok HOK.out.log n f.s Q.pages
         have LFT:Fit L'.D (70004+4*(NS.length-(i+1))):=by rw [← hL'];exact commit_fit (HFT.out.less (by omega)) _ _ _
         have AP:=Lib.hid (fun u (hb:Below wr.heap.size wr u)=>qm_CommitK (HM.out.below hb) HOK.out.log (HFT.out.less (by omega)) n f.s Q.pages FSZ.out)
         rw [hE,hL'] at AP
         have Fz9:Hid (R0=if E=0 then Pl.flush (NS.drop (i+1)) { Q with L:=L',ring:=Q.ring.set j { f with dirty:=false } } else ({ Q with L:=L' },E)):=Lib.hid (by
          rw [← HFL.out,DR.out,hdr,← hE,← hL',← CLN.out]
          simp only [Pl.flush,TXT.out])
         have COK:Hid (Pl.ok { Q with L:=L',ring:=Q.ring.set j { f with dirty:=false } }):=Lib.hid (by have:=HOK.out.clean LOK n;rw [CLN.out] at this;exact this)
         have LFTH:=Lib.hid LFT
         have CNM:=Lib.hid (show (Q.ring.set j { f with dirty:=false }).map (·.n)=Q.ring.map (·.n) by rw [← CLN.out];exact clean_names n Q.ring)
         clear hE hL' LOK hdr LFT
         have APT:=Lib.hid (fun u (hb:Below wr.heap.size wr u)=>Turn.below x1.all hb)
         go_upto_region 22 with fail
         go_region_with ((go_at_call 67;(with_reducible refine (AP.out _ HQB.out.bel.drew).mono ?_);rintro e2 w2 ⟨rfl,x3,hq3,ht3,hn3,hk3⟩))
         all_goals
          have HM2:=Lib.hid hq3
          have HT2:=Lib.hid ((APT.out _ HQB.out.bel.drew).trans ht3)
          have HN3:=Lib.hid hn3
          obtain ⟨p2,pg,pf,p3⟩:=hq3.frameAt (x:=x1) (hk3 q HM.out.head.1) (show wq.drew.cell? ⟨q,2,none⟩=_ from ZC.out) HFF.out
          have P2:=Lib.hid p2
          clear hq3 ht3 hn3 hk3 p2 z0 z1 z3
          by_cases hE0:E=0
          ·subst hE0
           have FRM:=Lib.hid (HM2.out.setHeld (A:=none) (P':={ Q with L:=L',ring:=Q.ring.set j { f with dirty:=false } }) P2.out HFF.out (j:=3) (f':={ f with dirty:=false }) (u:=.bool false) (by omega) rfl rfl rfl rfl (fun _ _=>rfl))
           have FS2:=Lib.hid (Fz9.out.trans (if_pos rfl))
           go_wp2_with fail
           go_roundw
           case rel =>
            have hT3:=HT2.out.trans FRM.out.2
            exact ⟨i+1,x3,{ Q with L:=L',ring:=Q.ring.set j { f with dirty:=false } },by simp,by omega,FRM.out.1,HT.out.trans hT3,by rw [HN3.out];exact HN.out,HNL.out.turn hT3 (fun k hk=>(HO.out k hk).1),fun k hk=>⟨fun h2=>(hT3.new k h2).elim (HO.out k hk).1 (fun h3=>by have:=(HO.out k hk).2;omega),Nat.lt_of_lt_of_le (HO.out k hk).2 hT3.size⟩,FS2.out.symm,COK.out,LFTH.out,CNM.out.trans HNM.out⟩
           case measure=>simp [intOf];omega
          ·have HE:=Lib.hid (show RC=({ Q with L:=L' },E) by rw [HCM.out,Fz9.out,if_neg hE0];exact if_neg hE0)
           go_wp2_with fail
           go_ret
           rw [HE.out]
           exact ⟨rfl,x3,HM2.out,HT.out.trans HT2.out,by rw [HN3.out];exact HN.out⟩
       ·obtain rfl:i=1:=by omega
        have HQ:Hid (R0=(Q,0)):=Lib.hid (by have:=HFL.out;rw [← NLen.out,List.drop_length] at this;exact this.symm)
        obtain ⟨AT1,kt1,v4,_,_,_⟩:=HM.out.list
        obtain ⟨k',q1,t1⟩:=HM.out.newList (P':={ Q with turned:=[] }) (T':=[]) (w':=wr) (v':=.slice none 0 0) v4 (grownBy_refl _ _) (World.ownsRow_nil _ _ _ _) (.inr (fun k hk=>by cases hk)) rfl rfl (fun n=>Iff.rfl) (fun _ _=>rfl)
        have Q1:=Lib.hid q1
        have T2:=Lib.hid (HT.out.trans t1)
        have HE:Hid (RC=if 1000≤Q.L.fs.length then ({ Q with turned:=[],L:=Q.L.checkpoint.1 },Q.L.checkpoint.2) else ({ Q with turned:=[] },0)):=Lib.hid (by have:=HCM.out;rw [HQ.out] at this;exact this)
        have UP1:=Lib.hid (show Q.L.D.down=false by have:=HFD.out;rw [HQ.out] at this;exact this rfl)
        have CK:=Lib.hid (qm_Checkpoint Q1.out HOK.out.log (HFT.out.less (by omega)) UP1.out)
        obtain ⟨A9,k9,l1,_,_⟩:=HM.out.log.frames
        have lz:=HM.out.log.cells.2.2.2.2.2.1
        have lq:¬ r=q:=fun e=>HM.out.disj r (List.mem_append_right _ HM.out.log.head.1) (e ▸ HM.out.head.1)
        clear q1 t1 HFL HCM HFD HQ
        by_cases h1k:1000≤Q.L.fs.length
        ·have HE2:=Lib.hid (HE.out.trans (if_pos h1k))
         have h1z:(1000:Int)≤(Q.L.fs.length:Int):=by omega
         clear HE h1k
         go_wp2_with (go_at_call 162;(with_reducible refine CK.out.mono ?_);rintro en w5 ⟨rfl,x5,hq5,ht5,hn5⟩)
         go_ret
         rw [HE2.out]
         exact ⟨rfl,x5,hq5,T2.out.trans ht5,Nat.le_trans hn5 (by simp)⟩
        ·have HE2:=Lib.hid (HE.out.trans (if_neg h1k))
         have h1z:¬ (1000:Int)≤(Q.L.fs.length:Int):=by omega
         clear HE h1k
         go_wp2_with fail
         go_ret
         rw [HE2.out]
         exact ⟨rfl,_,Q1.out,T2.out,by simp⟩
     ·have HC1:=Lib.hid (HC0.out.trans (if_neg hE0))
      go_wp2_with (go_at_call 154;(with_reducible refine US.out.mono ?_);rintro en w5 ⟨rfl,x5,hq5,ht5,hn5⟩)
      go_ret
      rw [HC1.out]
      exact ⟨rfl,x5,hq5,(Turn.below x.all HB.out).trans ht5,hn5⟩
    ·have HCM:=Lib.hid (HC.out.trans (if_neg hNS))
     have HFD:Hid ((Pl.flush (dirtyN P.ring) P).2=0→(Pl.flush (dirtyN P.ring) P).1.L.D.down=false):=Lib.hid (by have:=HDN.out;unfold Pl.flushed at this;rw [if_neg hNS] at this;exact this)
     have NL1:=Lib.hid (NL.of_own HRO.out)
     have H1:=Lib.hid HD.out
     have T1:=Lib.hid (Turn.below x.all HB.out)
     have N1:Hid (x.T.length≤x.T.length):=Lib.hid (Nat.le_refl _)
     have DIS:Hid (∀ k,AA.map (·.block)=some k→some k∉x.all∧k<wr.heap.size):=Lib.hid (fun k hk=>by
      have h1:=HRO.out.lt k (by cases AA with | none=>cases hk | some a=>exact hk)
      exact ⟨fun h2=>by have:=HH.out.lt h2;omega,h1.2⟩)
     have NZ:((dirtyN P.ring).length:Int)≠0:=fun h2=>hNS (List.eq_nil_of_length_eq_zero (by omega))
     obtain ⟨NS,hNSe⟩:∃ NS,dirtyN P.ring=NS:=⟨_,rfl⟩
     obtain ⟨R0,hR0⟩:∃ R,Pl.flush NS P=R:=⟨_,rfl⟩
     rw [hNSe] at HCM HFD NL1 NLe NS00 NZ ⊢
     rw [hR0] at HCM HFD
     have e1:((NS.length:Int) == 0)=false:=beq_eq_false_iff_ne.2 NZ
     have HRR:=Lib.hid hR0
     have OK1:=Lib.hid OK.out
     have FT1:=Lib.hid (show Fit P.L.D (70004+4*(NS.length-0)) from FIT.out.less (by omega))
     have NS0:=Lib.hid NS00
     have NLen:Hid (NS.length=NS.length):=Lib.hid rfl
     clear HRO HB HC HDN hNS NS00 NZ hNSe hR0 DE2 HD hn2 hn
     go_wp2_with fail
     go_loopw [55] (fun v55 wr=>∃ (i:Nat) (x':Qx) (Q:Pl),v55 = .int .i64 i∧i≤NS.length∧QM wr rd r q x' Q∧Turn x.all x'.all w wr∧x'.T.length≤x.T.length∧NL wr AA NS∧(∀ k,AA.map (·.block)=some k→some k∉x'.all∧k<wr.heap.size)∧Pl.flush (NS.drop i) Q=R0∧Q.ok∧Fit Q.L.D (70004+4*(NS.length-i))∧Q.ring.map (·.n)=P.ring.map (·.n)) (fun v55 _=>NS.length-(intOf v55).toNat)
     case atStart=>exact ⟨0,x,P,rfl,Nat.zero_le _,H1.out,T1.out,N1.out,NL1.out,DIS.out,HRR.out,OK1.out,FT1.out,rfl⟩
     case round =>
      obtain ⟨i,x1,Q,rfl,hile,hqm,hTn,hnn,hnl,hoff,hfl,hok,hfit,hnm⟩:=hrel
      have HM:=Lib.hid hqm;have HT:=Lib.hid hTn;have HN:=Lib.hid hnn;have HNL:=Lib.hid hnl;have HO:=Lib.hid hoff;have HFL:=Lib.hid hfl;have HOK:=Lib.hid hok;have HFT:=Lib.hid hfit;have HNM:=Lib.hid hnm
      clear hqm hTn hnn hnl hoff hfl hok hfit hnm H1 T1 N1 NL1 DIS HRR OK1 FT1
      have xz1:=HM.out.head.2.1
      have xf1:=HM.out.head.2.2
      obtain ⟨u0,_,u3,_,_,_⟩:=HM.out.cells
      by_cases hi1:i<NS.length
      ·obtain ⟨bk,hAA,hbk,hcell⟩:=HNL.out (by have:=NLen.out;omega)
       subst hAA
       have hin:i<NS.length:=by have:=NLen.out;omega
       obtain ⟨n,hn⟩:∃ n,NS[i]=n:=⟨_,rfl⟩
       have c0:wr.cell? ⟨bk,i,none⟩=some (.int .i64 (n:Int)):=hcell i n (by rw [List.getElem?_eq_getElem hin,hn])
       have hmem:n∈Q.ring.map (·.n):=by rw [HNM.out];exact NS0.out n (hn ▸ List.getElem_mem hin)
       have DR:Hid (NS.drop i=n :: NS.drop (i+1)):=Lib.hid (by rw [List.drop_eq_getElem_cons hin,hn])
       obtain ⟨j,f,hf,hfn,hfd,hix⟩:=idx_mem hmem
       have hQl:Q.ring.length≤64:=Nat.le_trans HOK.out.full HOK.out.most
       have hj:j<Q.ring.length:=(List.getElem?_eq_some_iff.1 hf).1
       have FD2:=Lib.hid (fun u (hb:Below wr.heap.size wr u)=>ref_find rd r q x1 Q n u (HM.out.below hb) (by omega))
       rw [hix] at FD2
       obtain ⟨A,k,x2,_,hF,_,_⟩:=HM.out.frames
       obtain ⟨g,rfl,hg,_,hcc⟩:=hF.2 (by omega)
       obtain ⟨a0,a1,a2,a3⟩:=hcc j f hf
       have TXT:Hid (textN n Q.ring=f.s):=Lib.hid (text_at hfd)
       have CLN:Hid (cleanN n Q.ring=Q.ring.set j { f with dirty:=false }):=Lib.hid (by rw [← hfn];exact clean_set HOK.out.names hf)
       have HFF:=Lib.hid hf
       have FSZ:=Lib.hid (show f.s.size≤9223372036854775807 by have:=HOK.out.size f (List.mem_of_getElem? hf);omega)
       have X2:=Lib.hid x2
       clear hcell hmem hn hfn hfd hix hF hcc a0 a2 a3 hf
       go_upto_region 18 with fail
       refine wp_region_cls (wr) (by kernel_rfl) (by kernel_rfl) (Cls.start _) ?_
       repeat
        first
         | go_big_quiet_skip
         | (go_big_quiet_want;(first | go_big_quiet_op | go_simp);first | go_big_quiet_on | (apply Exists.intro;refine ⟨fun w' hw'=>?_, ?_⟩;(·(first | (with_reducible exact rfl) | ((go_at_call 157;(with_reducible refine (FD2.out _ hw'.bel).mono ?_);rintro e w1 ⟨rfl,hb⟩;exact ⟨rfl,Cls.step hw' hb⟩)) | (obtain ⟨hc,hf⟩:=hw'.facts;go_simp;first | done | (with_reducible exact rfl) | (with_reducible exact ⟨rfl,rfl⟩))));go_big_quiet_on))
       refine wpQuiet_nil ?_
       intro wq hq
       have HQB:=Lib.hid hq
       obtain ⟨hcq,hfq⟩:=hq.facts
       have z0:=(hcq q 0 xz1).trans u0
       have z3:=(hcq q 3 xz1).trans u3
       have z1:=(hcq g (j*4+1) hg).trans a1
       have zz:=Nat.lt_of_lt_of_le xz1 hq.size
       have zg:=Nat.lt_of_lt_of_le hg hq.size
       have ZC:=Lib.hid ((hcq q 2 xz1).trans X2.out)
       clear hq hcq hfq u0 u3 a1 c0
       by_cases hlast:i+1<NS.length
       ·have g1:(i:Int)+1<(NS.length:Int):=by omega
        obtain ⟨m,rs,hdr⟩:∃ m rs,NS.drop (i+1)=m :: rs:=⟨NS[i+1]'(by have:=NLen.out;omega),NS.drop (i+2),by rw [List.drop_eq_getElem_cons (by have:=NLen.out;omega)]⟩
        obtain ⟨E,hE⟩:∃ E,Q.L.appendE n f.s=E:=⟨_,rfl⟩
        obtain ⟨L',hL'⟩:∃ L',Q.L.append n f.s=L':=⟨_,rfl⟩
        have LOK:L'.ok:=by rw [← hL'];exact append_ok HOK.out.log n f.s
        have LFT:Fit L'.D (70004+4*(NS.length-(i+1))):=by rw [← hL'];exact append_fit (HFT.out.less (by omega)) _ _
        have AP:=Lib.hid (fun u (hb:Below wr.heap.size wr u)=>qm_AppendK (HM.out.below hb) HOK.out.log (HFT.out.less (by omega)) n f.s FSZ.out)
        rw [hE,hL'] at AP
        have Fz9:Hid (R0=if E=0 then Pl.flush (NS.drop (i+1)) { Q with L:=L',ring:=Q.ring.set j { f with dirty:=false } } else ({ Q with L:=L' },E)):=Lib.hid (by
         rw [← HFL.out,DR.out,hdr,← hE,← hL',← CLN.out]
         show Pl.flush _ _=_
         rw [Pl.flush,TXT.out])
        have COK:Hid (Pl.ok { Q with L:=L',ring:=Q.ring.set j { f with dirty:=false } }):=Lib.hid (by have:=HOK.out.clean LOK n;rw [CLN.out] at this;exact this)
        have LFTH:=Lib.hid LFT
        have CNM:=Lib.hid (show (Q.ring.set j { f with dirty:=false }).map (·.n)=Q.ring.map (·.n) by rw [← CLN.out];exact clean_names n Q.ring)
        clear hE hL' LOK hdr LFT
        have APT:=Lib.hid (fun u (hb:Below wr.heap.size wr u)=>Turn.below x1.all hb)
        go_upto_region 21 with fail
        go_region_with ((go_at_call 151;(with_reducible refine (AP.out _ HQB.out.bel.drew).mono ?_);rintro e2 w2 ⟨rfl,x3,hq3,ht3,hn3,hk3⟩))
        all_goals
         have HM2:=Lib.hid hq3
         have HT2:=Lib.hid ((APT.out _ HQB.out.bel.drew).trans ht3)
         have HN3:=Lib.hid hn3
         obtain ⟨p2,pg,pf,p3⟩:=hq3.frameAt (x:=x1) (hk3 q HM.out.head.1) (show wq.drew.cell? ⟨q,2,none⟩=_ from ZC.out) HFF.out
         have P2:=Lib.hid p2
         clear hq3 ht3 hn3 hk3 p2 z0 z1 z3
         by_cases hE0:E=0
         ·subst hE0
          have FRM:=Lib.hid (HM2.out.setHeld (A:=none) (P':={ Q with L:=L',ring:=Q.ring.set j { f with dirty:=false } }) P2.out HFF.out (j:=3) (f':={ f with dirty:=false }) (u:=.bool false) (by omega) rfl rfl rfl rfl (fun _ _=>rfl))
          have FS2:=Lib.hid (Fz9.out.trans (if_pos rfl))
          go_wp2_with fail
          go_roundw
          case rel =>
           have hT3:=HT2.out.trans FRM.out.2
           exact ⟨i+1,x3,{ Q with L:=L',ring:=Q.ring.set j { f with dirty:=false } },by simp,by omega,FRM.out.1,HT.out.trans hT3,by rw [HN3.out];exact HN.out,HNL.out.turn hT3 (fun k hk=>(HO.out k hk).1),fun k hk=>⟨fun h2=>(hT3.new k h2).elim (HO.out k hk).1 (fun h3=>by have:=(HO.out k hk).2;omega),Nat.lt_of_lt_of_le (HO.out k hk).2 hT3.size⟩,FS2.out.symm,COK.out,LFTH.out,CNM.out.trans HNM.out⟩
          case measure=>simp [intOf];omega
         ·have HE:=Lib.hid (show RC=({ Q with L:=L' },E) by rw [HCM.out,Fz9.out,if_neg hE0];exact if_neg hE0)
          go_wp2_with fail
          go_ret
          rw [HE.out]
          exact ⟨rfl,x3,HM2.out,HT.out.trans HT2.out,by rw [HN3.out];exact HN.out⟩
       ·have g1:¬ (i:Int)+1<(NS.length:Int):=by omega
        have hdr:NS.drop (i+1)=[]:=List.drop_eq_nil_of_le (by have:=NLen.out;omega)
        obtain ⟨E,hE⟩:∃ E,Q.L.commitE n f.s Q.pages=E:=⟨_,rfl⟩
        obtain ⟨L',hL'⟩:∃ L',Q.L.commit n f.s Q.pages=L':=⟨_,rfl⟩
        have LOK:L'.ok:=by rw [← hL'];exact commit_ok HOK.out.log n f.s Q.pages
        have LFT:Fit L'.D (70004+4*(NS.length-(i+1))):=by rw [← hL'];exact commit_fit (HFT.out.less (by omega)) _ _ _
        have AP:=Lib.hid (fun u (hb:Below wr.heap.size wr u)=>qm_CommitK (HM.out.below hb) HOK.out.log (HFT.out.less (by omega)) n f.s Q.pages FSZ.out)
        rw [hE,hL'] at AP
        have Fz9:Hid (R0=if E=0 then Pl.flush (NS.drop (i+1)) { Q with L:=L',ring:=Q.ring.set j { f with dirty:=false } } else ({ Q with L:=L' },E)):=Lib.hid (by
         rw [← HFL.out,DR.out,hdr,← hE,← hL',← CLN.out]
         simp only [Pl.flush,TXT.out])
        have COK:Hid (Pl.ok { Q with L:=L',ring:=Q.ring.set j { f with dirty:=false } }):=Lib.hid (by have:=HOK.out.clean LOK n;rw [CLN.out] at this;exact this)
        have LFTH:=Lib.hid LFT
        have CNM:=Lib.hid (show (Q.ring.set j { f with dirty:=false }).map (·.n)=Q.ring.map (·.n) by rw [← CLN.out];exact clean_names n Q.ring)
        clear hE hL' LOK hdr LFT
        have APT:=Lib.hid (fun u (hb:Below wr.heap.size wr u)=>Turn.below x1.all hb)
        go_upto_region 22 with fail
        go_region_with ((go_at_call 67;(with_reducible refine (AP.out _ HQB.out.bel.drew).mono ?_);rintro e2 w2 ⟨rfl,x3,hq3,ht3,hn3,hk3⟩))
        all_goals
         have HM2:=Lib.hid hq3
         have HT2:=Lib.hid ((APT.out _ HQB.out.bel.drew).trans ht3)
         have HN3:=Lib.hid hn3
         obtain ⟨p2,pg,pf,p3⟩:=hq3.frameAt (x:=x1) (hk3 q HM.out.head.1) (show wq.drew.cell? ⟨q,2,none⟩=_ from ZC.out) HFF.out
         have P2:=Lib.hid p2
         clear hq3 ht3 hn3 hk3 p2 z0 z1 z3
         by_cases hE0:E=0
         ·subst hE0
          have FRM:=Lib.hid (HM2.out.setHeld (A:=none) (P':={ Q with L:=L',ring:=Q.ring.set j { f with dirty:=false } }) P2.out HFF.out (j:=3) (f':={ f with dirty:=false }) (u:=.bool false) (by omega) rfl rfl rfl rfl (fun _ _=>rfl))
          have FS2:=Lib.hid (Fz9.out.trans (if_pos rfl))
          go_wp2_with fail
          go_roundw
          case rel =>
           have hT3:=HT2.out.trans FRM.out.2
           exact ⟨i+1,x3,{ Q with L:=L',ring:=Q.ring.set j { f with dirty:=false } },by simp,by omega,FRM.out.1,HT.out.trans hT3,by rw [HN3.out];exact HN.out,HNL.out.turn hT3 (fun k hk=>(HO.out k hk).1),fun k hk=>⟨fun h2=>(hT3.new k h2).elim (HO.out k hk).1 (fun h3=>by have:=(HO.out k hk).2;omega),Nat.lt_of_lt_of_le (HO.out k hk).2 hT3.size⟩,FS2.out.symm,COK.out,LFTH.out,CNM.out.trans HNM.out⟩
          case measure=>simp [intOf];omega
         ·have HE:=Lib.hid (show RC=({ Q with L:=L' },E) by rw [HCM.out,Fz9.out,if_neg hE0];exact if_neg hE0)
          go_wp2_with fail
          go_ret
          rw [HE.out]
          exact ⟨rfl,x3,HM2.out,HT.out.trans HT2.out,by rw [HN3.out];exact HN.out⟩
      ·obtain rfl:i=NS.length:=by omega
       have HQ:Hid (R0=(Q,0)):=Lib.hid (by have:=HFL.out;rw [List.drop_length] at this;exact this.symm)
       obtain ⟨AT1,kt1,v4,_,_,_⟩:=HM.out.list
       obtain ⟨k',q1,t1⟩:=HM.out.newList (P':={ Q with turned:=[] }) (T':=[]) (w':=wr) (v':=.slice none 0 0) v4 (grownBy_refl _ _) (World.ownsRow_nil _ _ _ _) (.inr (fun k hk=>by cases hk)) rfl rfl (fun n=>Iff.rfl) (fun _ _=>rfl)
       have Q1:=Lib.hid q1
       have T2:=Lib.hid (HT.out.trans t1)
       have HE:Hid (RC=if 1000≤Q.L.fs.length then ({ Q with turned:=[],L:=Q.L.checkpoint.1 },Q.L.checkpoint.2) else ({ Q with turned:=[] },0)):=Lib.hid (by have:=HCM.out;rw [HQ.out] at this;exact this)
       have UP1:=Lib.hid (show Q.L.D.down=false by have:=HFD.out;rw [HQ.out] at this;exact this rfl)
       have CK:=Lib.hid (qm_Checkpoint Q1.out HOK.out.log (HFT.out.less (by omega)) UP1.out)
       obtain ⟨A9,k9,l1,_,_⟩:=HM.out.log.frames
       have lz:=HM.out.log.cells.2.2.2.2.2.1
       have lq:¬ r=q:=fun e=>HM.out.disj r (List.mem_append_right _ HM.out.log.head.1) (e ▸ HM.out.head.1)
       clear q1 t1 HFL HCM HFD HQ
       by_cases h1k:1000≤Q.L.fs.length
       ·have HE2:=Lib.hid (HE.out.trans (if_pos h1k))
        have h1z:(1000:Int)≤(Q.L.fs.length:Int):=by omega
        clear HE h1k
        go_wp2_with (go_at_call 162;(with_reducible refine CK.out.mono ?_);rintro en w5 ⟨rfl,x5,hq5,ht5,hn5⟩)
        go_ret
        rw [HE2.out]
        exact ⟨rfl,x5,hq5,T2.out.trans ht5,Nat.le_trans hn5 (by simp)⟩
       ·have HE2:=Lib.hid (HE.out.trans (if_neg h1k))
        have h1z:¬ (1000:Int)≤(Q.L.fs.length:Int):=by omega
        clear HE h1k
        go_wp2_with fail
        go_ret
        rw [HE2.out]
        exact ⟨rfl,_,Q1.out,T2.out,by simp⟩
end Go.Proofs.YtjihboddejaelaaGreat
