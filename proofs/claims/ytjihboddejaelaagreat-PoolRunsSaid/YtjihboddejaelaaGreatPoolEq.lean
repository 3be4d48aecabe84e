/-
  Commit of package pool.
-/
import Derived.Test.YtjihboddejaelaaGreatPr14
import Derived.Test.YtjihboddejaelaaGreatPr15
set_option linter.unusedVariables false
set_option linter.unusedSimpArgs false
namespace Go.Proofs.YtjihboddejaelaaGreat
open Go.RowKit
open Go.BigFrame
open Go.Maps
theorem own_slice {w:World} {base n:Nat} {e:TypeId} {v:Value} {xs:List Value} (h:w.ownsRow base e 1 v n xs):∃ A c,v = .slice A n c:=by
 rcases h.2 with ⟨rfl,h0⟩ | ⟨g,cap,cur,rfl,_⟩
 ·rw [h0];exact ⟨none,0,rfl⟩
 ·exact ⟨_,cap,rfl⟩
set_option maxRecDepth 100000 in
set_option maxHeartbeats 6400000 in
theorem pool_Commit (b:List (Option Nat)) (gd g m1 m2 p e h t:Nat) (A:List Nat) (P:Pl) (w:World) (H:PM w b gd g m1 m2 p e h t A P) (ok:P.ok) (fit:Fit P.L.D 70300) (hdn:P.flushed.2=0→P.flushed.1.L.D.down=false) :
 Calls Tryz.prog 32 #[.pointer (some ⟨p,0,none⟩)] w (RollPost (allB b g m1 m2 p e h t A) w gd g p e h P.commit.1 P.commit.2):=by
 have HP:=Lib.hid H
 have OK:=Lib.hid ok
 have FIT:=Lib.hid fit
 have HDN:=Lib.hid hdn
 have x6:w.cell? ⟨p,6,none⟩=some (.map (some t)):=H.has.cell 6
 by_cases hT:P.turned=[]
 ·have hlen:∀ ty,(Builtin.len_ #[104] ty #[.map (some t)]).run Tryz.prog w = .ok (.int .i64 0) w:=fun ty=>by
   have:=H.turned.len Tryz.underlying104 3
   rw [hT] at this;exact this
  have HE:P.commit=(P,0):=if_pos hT
  rw [HE]
  clear H ok fit hdn hT HE
  go_enter Tryz.func32,Tryz.ntmps32
  go_wp2_with fail
  go_ret
  exact ⟨rfl,b,m1,m2,t,A,HP.out,Turn.refl _ _⟩
 ·have hlen:=H.turned.len Tryz.underlying104
  have e0:((P.turned.length:Int) == 0)=false:=by
   rw [beq_eq_false_iff_ne]
   intro hx
   exact hT (List.eq_nil_of_length_eq_zero (by omega))
  obtain ⟨RC,hRC⟩:∃ R,P.commit=R:=⟨_,rfl⟩
  have HC:Hid (RC=if dirtyN P.ring=[] then (if (P.get 0).2=0 then Pl.told (Pl.flush [0] (P.get 0).1) else P.get 0) else Pl.told (Pl.flush (dirtyN P.ring) P)):=Lib.hid (hRC.symm.trans (if_neg hT))
  obtain ⟨B0,hB0⟩:∃ B,allB b g m1 m2 p e h t A=B:=⟨_,rfl⟩
  have HB0:=Lib.hid hB0
  rw [hRC,hB0]
  obtain ⟨i0,hi,hz0,hz1,hz2⟩:=info_parts pInfoInt
  obtain ⟨DH,hown,hsay,hsz⟩:=H.held
  have x3:w.cell? ⟨p,3,none⟩=some (.map (some h)):=H.has.cell 3
  have SAY:=Lib.hid hsay
  have FL:P.ring.length≤64:=Nat.le_trans ok.full ok.most
  have FLH:=Lib.hid FL
  clear H ok fit hdn hT hsay hsz FL hRC hB0
  go_enter Tryz.func32,Tryz.ntmps32
  go_wp2_with (first
   | (at_range;refine wpList_range_own _ rfl _ 103 rfl 3 102 lawInt Tryz.underlying103 _ h _ _ rfl hown ?_;intro w0 hrg0 hg0 hs0)
   | go_in)
  go_frame
  have BL0:=Lib.hid ((Below.refl w.heap.size w).grown hg0 (by omega) (fun j hj=>by cases hj))
  obtain ⟨r,hr⟩:∃ r,w.heap.size=r:=⟨_,rfl⟩
  have HR:=Lib.hid hr
  have SZ0:Hid (w0.heap.size=r+1):=Lib.hid (by rw [hs0,hr])
  rw [hr] at hrg0
  simp only [hr]
  clear hr x3 x6 e0 hlen hown hs0 hg0
  go_loopw [3,24] (fun v3 _ wr=>∃ (left:Lit→Bool) (cnt:Nat) (ks:List Nat),wr.ranges Tryz.prog 3 frElem h r P.ring.length DH left cnt∧wr.ownsRow (r+1) 3 1 v3 ks.length (pNums ks)∧Below w.heap.size w wr∧r+1≤wr.heap.size ∧
   ks.Perm ((P.ring.filter (seenD left)).map (·.n)))
   (fun _ _ wr=>wr.rangeLeft h r)
  case atStart=>exact ⟨_,_,[],hrg0,World.ownsRow_nil _ _ _ _,BL0.out,by rw [SZ0.out];exact Nat.le_refl _,by rw [seen_start (says_held HP.out.ring.len SAY.out)];exact List.Perm.refl _⟩
  case round =>
   obtain ⟨left,cnt,ks,hrg,hrow,hbl,hsz,hperm⟩:=hrel
   have HB:=Lib.hid hbl
   have HRW:=Lib.hid hrow
   have HSZ:=Lib.hid hsz
   have KL:ks.length≤64:=by rw [hperm.length_eq,List.length_map];exact Nat.le_trans (List.length_filter_le _ _) FLH.out
   have HPE:=Lib.hid hperm
   have G1:=Lib.hid (show ks.length+1≤maxLen by unfold maxLen;omega)
   have G2:=Lib.hid (show (ks.length+1)*8≤140737488355328 by omega)
   clear hrg0 hperm hrow hsz hbl
   go_wp2_with (first
    | (at_next;refine wpList_next_fr _ rfl _ rfl h r _ DH left cnt rfl hrg _ SAY.out ?_ ?_)
    | go_in)
   ·intro hc0 hl0
    have PE:ks.Perm ((P.ring.filter (·.dirty)).map (·.n)):=by have:=HPE.out;rw [seen_end hl0] at this;exact this
    have SD:Hid (ks.mergeSort (·≤ ·)=dirtyN P.ring):=Lib.hid (sort_perm PE)
    have NLen:Hid ((dirtyN P.ring).length=ks.length):=Lib.hid (by rw [← SD.out,List.length_mergeSort])
    have NS0:Hid (∀ n∈dirtyN P.ring,n∈P.ring.map (·.n)):=Lib.hid (fun n hn=>by
     rw [← SD.out] at hn
     have:=PE.mem_iff.1 (List.mem_mergeSort.1 hn)
     obtain ⟨f,hf,rfl⟩:=List.mem_map.1 this
     exact List.mem_map.2 ⟨f,(List.mem_filter.1 hf).1,rfl⟩)
    obtain ⟨AA,cc,hv⟩:=own_slice HRW.out
    have SO:=Lib.hid (pool_sort HRW.out (by omega))
    subst hv
    have HW:Hid (∀ k,(Value.slice AA ks.length cc).ownBlock=some k→w.heap.size≤k):=Lib.hid (fun k hk=>by have:=(HRW.out.lt k hk).1;have:=HR.out;omega)
    clear hrg hl0 hc0 PE
    by_cases hk0:ks.length=0
    ·have hk0':((ks.length:Int) == 0)=true:=by rw [hk0];rfl
     have hDN:dirtyN P.ring=[]:=List.eq_nil_of_length_eq_zero (by rw [NLen.out];exact hk0)
     have HC0:=Lib.hid (HC.out.trans (if_pos hDN))
     have HF0:Hid ((if (P.get 0).2=0 then Pl.flush [0] (P.get 0).1 else P.get 0).2=0→(if (P.get 0).2=0 then Pl.flush [0] (P.get 0).1 else P.get 0).1.L.D.down=false):=Lib.hid (by have:=HDN.out;unfold Pl.flushed at this;rw [if_pos hDN] at this;exact this)
     have GT:=Lib.hid (fun u (hb:Below w.heap.size w u)=>pool_get b gd g m1 m2 p e h t A P 0 ⟨by omega,by omega⟩ u (HP.out.below hb) OK.out (FIT.out.less (by omega)))
     have GOK:=Lib.hid (get_ok OK.out 0)
     have GFT:=Lib.hid (get_fit (k:=70299) FIT.out 0)
     have GL:=Lib.hid (get_last OK.out (x:=0))
     obtain ⟨Q0,hQ0⟩:∃ Q,(P.get 0).1=Q:=⟨_,rfl⟩
     obtain ⟨E,hE⟩:∃ E,(P.get 0).2=E:=⟨_,rfl⟩
     have hPQ:P.get 0=(Q0,E):=by rw [← hQ0,← hE]
     rw [hPQ] at HC0 HF0 GT GOK GFT GL
     dsimp only at HC0 HF0 GT GOK GFT GL
     clear hDN hQ0 hE hPQ hk0
     by_cases hE0:E=0
     ·subst hE0
      have HC1:=Lib.hid (HC0.out.trans (if_pos rfl))
      have HF1:=Lib.hid HF0.out
      go_wp2_with (first
       | (go_at_call 96;refine SO.out.mono ?_;rintro en w1 ⟨rfl,hg1,A5,c5,h5,hnl,hlt5⟩;cases h5;have HB1:=Lib.hid (HB.out.grown hg1 HB.out.size HW.out))
       | (go_at_call 97;refine (GT.out _ HB1.out).mono ?_;rintro en w5 ⟨b5,n5,n6,A6,hpm5,ht5,hdis⟩;obtain ⟨_,a0,a6,hA6,rfl⟩:=hdis.resolve_left (fun h=>h.1 rfl)))
      have HP5:=Lib.hid hpm5
      have T5:Hid (Turn B0 (allB b5 g n5 n6 p e h t A6) w w5):=Lib.hid (by rw [← HB0.out];exact (Turn.below _ HB1.out).trans ht5)
      have hne:=HP5.out.has.lt
      have cw:(w5.alloc (.cells #[.int .i64 0] 3)).cell? ⟨w5.heap.size,0,none⟩=some (.int .i64 0):=(Has.new w5 3 #[.int .i64 0]).cell 0
      have HAL:=Lib.hid ((Below.refl w5.heap.size w5).alloc (Nat.le_refl _) (.cells #[.int .i64 0] 3))
      have H1:=Lib.hid (HP5.out.below HAL.out)
      have T1:=Lib.hid (T5.out.trans (Turn.below _ HAL.out))
      obtain ⟨NS,hNS⟩:∃ NS:List Nat,[0]=NS:=⟨_,rfl⟩
      have NLen:Hid (NS.length=1):=Lib.hid (by rw [← hNS];rfl)
      have NL1:Hid (NL (w5.alloc (.cells #[.int .i64 0] 3)) (some ⟨w5.heap.size,0,none⟩) NS):=Lib.hid (fun _=>⟨w5.heap.size,rfl,by simp,fun i n hn=>by
       rw [← hNS] at hn
       cases i with
       | zero=>cases hn;exact cw
       | succ i=>cases hn⟩)
      have NS0:Hid (∀ n∈NS,n∈Q0.ring.map (·.n)):=Lib.hid (fun n hn=>by
       rw [← hNS] at hn
       obtain ⟨F0,f,hF,hfn,_,_⟩:=GL.out trivial
       rw [List.mem_singleton.1 hn,hF]
       exact List.mem_map.2 ⟨f,List.mem_append_right _ (List.mem_singleton.2 rfl),by omega⟩)
      have OK:=Lib.hid GOK.out
      have FIT:=Lib.hid GFT.out
      have HCM:Hid (RC=Pl.told (Pl.flush NS Q0)):=Lib.hid (by rw [← hNS];exact HC1.out)
      have HFD:Hid ((Pl.flush NS Q0).2=0→(Pl.flush NS Q0).1.L.D.down=false):=Lib.hid (by rw [← hNS];exact HF1.out)
      obtain ⟨R0,hR0⟩:∃ R,Pl.flush NS Q0=R:=⟨_,rfl⟩
      rw [hR0] at HCM HFD
      have HRR:=Lib.hid hR0
      have DIS:Hid (∀ k,(some (⟨w5.heap.size,0,none⟩:Addr)).map (·.block)=some k→some k∉allB b5 g n5 n6 p e h t A6∧k<(w5.alloc (.cells #[.int .i64 0] 3)).heap.size):=Lib.hid (fun k hk=>by
       have hk2:w5.heap.size=k:=by simpa using hk
       subst hk2
       exact ⟨fun h2=>by have:=HP5.out.lt _ h2;omega,by simp⟩)
      clear hNS hR0 HC HDN HB HSZ SO HRW HPE SD SAY HW HC0 HF0 GT GOK GFT GL HC1 HF1 HB1 cw HAL T5 HP5 hpm5 ht5 hA6 hdis hne hnl hlt5 hg1
      generalize (w5.alloc (.cells #[.int .i64 0] 3))=W5 at *
      generalize w5.heap.size=z5 at *
      obtain ⟨AA,hAA0⟩:∃ AA:Option Addr,some ⟨z5,0,none⟩=AA:=⟨_,rfl⟩
      rw [hAA0] at NL1 DIS ⊢
      go_loopw [52] (fun v52 wr=>∃ (i:Nat) (b':List (Option Nat)) (m1' m2':Nat) (Q:Pl),v52 = .int .i64 i∧i≤1∧PM wr b' gd g m1' m2' p e h t A6 Q∧Turn B0 (allB b' g m1' m2' p e h t A6) w wr∧NL wr AA NS ∧
       (∀ k,AA.map (·.block)=some k→some k∉allB b' g m1' m2' p e h t A6∧k<wr.heap.size)∧Pl.flush (NS.drop i) Q=R0∧Q.ok∧Fit Q.L.D (70004+4*(1-i))∧Q.ring.map (·.n)=Q0.ring.map (·.n)) (fun v52 _=>1-(intOf v52).toNat)
      case atStart=>exact ⟨0,b5,n5,n6,Q0,rfl,Nat.zero_le _,H1.out,T1.out,NL1.out,DIS.out,HRR.out,OK.out,FIT.out.less (by omega),rfl⟩
      case round =>
       obtain ⟨i,b',n1,n2,Q,rfl,hile,hpm,hTn,hnl,hoff,hfl,hok,hfit,hnm⟩:=hrel
       have HM:=Lib.hid hpm;have HT:=Lib.hid hTn;have HN:=Lib.hid hnl;have HO:=Lib.hid hoff;have HFL:=Lib.hid hfl;have HOK:=Lib.hid hok;have HFT:=Lib.hid hfit;have HNM:=Lib.hid hnm
       clear hpm hTn hnl hoff hfl hok hfit hnm H1 T1 NL1 DIS
       by_cases hi1:i<1
       ·obtain rfl:i=0:=by omega
        obtain ⟨bk,hAA,hbk,hcell⟩:=HN.out (by have:=NLen.out;omega)
        subst hAA
        have hin:0<NS.length:=by have:=NLen.out;omega
        obtain ⟨n,hn⟩:∃ n,NS[0]=n:=⟨_,rfl⟩
        have c0:wr.cell? ⟨bk,0,none⟩=some (.int .i64 (n:Int)):=hcell 0 n (by rw [List.getElem?_eq_getElem hin,hn])
        have hmem:n∈Q.ring.map (·.n):=by rw [HNM.out];exact NS0.out n (hn ▸ List.getElem_mem hin)
        have DR:Hid (NS.drop 0=n :: NS.drop (0+1)):=Lib.hid (by rw [List.drop_eq_getElem_cons hin,hn])
        obtain ⟨f,hf,hfn⟩:=List.mem_map.1 hmem
        obtain ⟨F1,F2,hF⟩:=List.append_of_mem hf
        have al:=HM.out.ring.len
        obtain ⟨A1,a,A2,hA,hl⟩:∃ A1 a A2,A6=A1++a :: A2∧A1.length=F1.length:=by
         have hk:F1.length<A6.length:=by rw [al,hF];simp
         exact ⟨A6.take F1.length,A6[F1.length],A6.drop (F1.length+1),split_at hk,by rw [List.length_take];omega⟩
        subst hA
        obtain rfl:f.n=n:=hfn
        have nm:=HOK.out.names
        have HK:Hid (ptrO (heldOf (A1++a :: A2) Q.ring f.n)=ptrB a):=Lib.hid (by rw [hF,heldOf_at (by rw [← hF];exact nm) hl];rfl)
        have hfp:f.n≤65536:=by have:=HOK.out.pages f hf;have:=HOK.out.few;omega
        have WN:=Lib.hid (wfI (x:=(f.n:Int)) (by omega) (by omega))
        have hr:=HM.out.ring
        rw [hF] at hr
        have hat:=hr.at hl
        have a1:wr.cell? ⟨a,1,none⟩=some (.string f.s):=hat.cell 1
        have x0:wr.cell? ⟨p,0,none⟩=some (ptrB g):=HM.out.has.cell 0
        have x3:wr.cell? ⟨p,3,none⟩=some (.map (some h)):=HM.out.has.cell 3
        have x4:wr.cell? ⟨p,4,none⟩=some (.int .i64 Q.pages):=HM.out.has.cell 4
        have HG:=Lib.hid HM.out.held
        have TXT:Hid (textN f.n Q.ring=f.s):=Lib.hid (by rw [hF] at nm ⊢;exact text_mid nm)
        have CLN:Hid (cleanN f.n Q.ring=F1++{ f with dirty:=false } :: F2):=Lib.hid (by rw [hF] at nm ⊢;exact clean_mid nm)
        have HF:=Lib.hid hF
        have HLL:=Lib.hid hl
        clear hcell hmem hf al nm hr hat hF hl hn
        have hdr:NS.drop (0+1)=[]:=List.drop_eq_nil_of_le (by have:=NLen.out;omega)
        obtain ⟨E,hE⟩:∃ E,Q.L.commitE f.n f.s Q.pages=E:=⟨_,rfl⟩
        obtain ⟨L',hL'⟩:∃ L',Q.L.commit f.n f.s Q.pages=L':=⟨_,rfl⟩
        have LOK:L'.ok:=by rw [← hL'];exact commit_ok HOK.out.log f.n f.s Q.pages
        have LFT:Fit L'.D (70004+4*(1-(0+1))):=by rw [← hL'];exact commit_fit (HFT.out.less (by omega)) _ _ _
        have AP:=Lib.hid (fun u (hb:Below wr.heap.size wr u)=>pm_Commit (HM.out.below hb) HOK.out.log (HFT.out.less (by omega)) f.n f.s Q.pages)
        rw [hE,hL'] at AP
        have Fz9:Hid (R0=if E=0 then Pl.flush (NS.drop (0+1)) { Q with L:=L',ring:=F1++{ f with dirty:=false } :: F2 } else ({ Q with L:=L' },E)):=Lib.hid (by
         rw [← HFL.out,DR.out,hdr,← hE,← hL',← CLN.out]
         simp only [Pl.flush,TXT.out])
        have COK:Hid (Pl.ok { Q with L:=L',ring:=F1++{ f with dirty:=false } :: F2 }):=Lib.hid (by have:=HOK.out.clean LOK f.n;rw [CLN.out] at this;exact this)
        have LFT:=Lib.hid LFT
        clear hE hL' LOK hdr
        have APT:=Lib.hid (fun u (hb:Below wr.heap.size wr u)=>Turn.below (allB b' g n1 n2 p e h t (A1++a :: A2)) hb)
        go_wp2_with (at_lookup;refine wpList_lookup_fr _ rfl _ _ rfl h _ (heldOf (A1++a :: A2) Q.ring) rfl HG.out f.n rfl WN.out ?_;rw [HK.out])
        go_region_with ((go_at_call 40;refine (AP.out _ (by repeat (first | exact Below.refl _ _ | refine Below.drew ?_))).mono ?_;rintro e2 w2 ⟨rfl,b2,n3,n4,hpm2,ht2⟩))
        all_goals
         have HM2:=Lib.hid hpm2
         have HT2:=Lib.hid ((APT.out _ (by repeat (first | exact Below.refl _ _ | refine Below.drew ?_))).trans ht2)
         clear hpm2 ht2 x0 x3 x4 a1 c0
         by_cases hE0:E=0
         ·subst hE0
          have FRM:=Lib.hid (HM2.out.frame (f':={ f with dirty:=false }) HF.out HLL.out 3 (.bool false) rfl (fun x y=>rfl))
          have hr2:=HM2.out.ring
          rw [show ({ Q with L:=L' }:Pl).ring=_ from HF.out] at hr2
          have hat2:=hr2.at HLL.out
          have y3:w2.cell? ⟨a,3,none⟩=some (.bool f.dirty):=hat2.cell 3
          have yf:=hat2.frozen
          clear hr2 hat2
          go_wp2_with fail
          go_roundw
          case rel =>
           refine ⟨0+1,b2,n3,n4,{ Q with L:=L',ring:=F1++{ f with dirty:=false } :: F2 },by simp,by omega,FRM.out.1,(HT.out.trans HT2.out).trans FRM.out.2,HN.out.turn (HT2.out.trans FRM.out.2) (fun k hk=>(HO.out k hk).1),fun k hk=>⟨fun h2=>((HT2.out.trans FRM.out.2).new k h2).elim (HO.out k hk).1 (fun h3=>by have:=(HO.out k hk).2;omega),Nat.lt_of_lt_of_le (HO.out k hk).2 (HT2.out.trans FRM.out.2).size⟩, ?_,COK.out,LFT.out, ?_⟩
           ·have:=Fz9.out;rw [if_pos rfl] at this;exact this.symm
           ·rw [← HNM.out,HF.out];simp
          case measure=>simp [intOf]
         ·have HE:RC=({ Q with L:=L' },E):=by rw [HCM.out,Fz9.out,if_neg hE0];exact if_neg hE0
          go_wp2_with fail
          go_ret
          rw [HE]
          exact ⟨rfl,b2,n3,n4,t,_,HM2.out,HT.out.trans HT2.out⟩
       ·obtain rfl:i=1:=by omega
        have HQ:Hid (R0=(Q,0)):=Lib.hid (by have:=HFL.out;rw [← NLen.out,List.drop_length] at this;exact this.symm)
        have NT:=HM.out.newTurned
        rw [World.setCell_alloc_past _ _ _ _ HM.out.has.lt] at NT
        have NT:=Lib.hid NT
        have FR:Hid (∀ wz,PM wz b' gd g n1 n2 p e h wr.heap.size A6 { Q with turned:=[] }→Calls Tryz.prog 89 #[ptrB g] wz fun e w'=>e = .returned (.int .i64 Q.L.fs.length)∧wz=w'):=fun wz hz=>wal_Frames b' gd g n1 n2 Q.L.rw wz hz.log
        have CK:Hid (∀ wz,PM wz b' gd g n1 n2 p e h wr.heap.size A6 { Q with turned:=[] }→Calls Tryz.prog 99 #[ptrB g] wz (PmPost (allB b' g n1 n2 p e h wr.heap.size A6) wz gd g p e h wr.heap.size A6 { Q with turned:=[],L:=Q.L.checkpoint.1 } (.int .i64 Q.L.checkpoint.2))):=fun wz hz =>
         pm_Checkpoint hz HOK.out.log (by have:=HFD.out;rw [HQ.out] at this;exact this rfl) (HFT.out.less (by omega))
        have HE:Hid (RC=if 1000≤Q.L.fs.length then ({ Q with turned:=[],L:=Q.L.checkpoint.1 },Q.L.checkpoint.2) else ({ Q with turned:=[] },0)):=Lib.hid (by have:=HCM.out;rw [HQ.out] at this;exact this)
        have x6:wr.cell? ⟨p,6,none⟩=some (.map (some t)):=HM.out.has.cell 6
        have x0:wr.cell? ⟨p,0,none⟩=some (ptrB g):=HM.out.has.cell 0
        have xf:=HM.out.has.frozen
        have xl:=HM.out.has.lt
        have hmk:=make_ii
        clear HFL HCM HFD HQ
        by_cases h1k:1000≤Q.L.fs.length
        ·have HE2:=Lib.hid (HE.out.trans (if_pos h1k))
         have h1z:(1000:Int)≤(Q.L.fs.length:Int):=by omega
         clear HE h1k
         go_wp2_with (first
          | (go_at_call 89;refine (FR.out _ NT.out.1).mono ?_;rintro en w4 ⟨rfl,rfl⟩)
          | (go_at_call 99;refine (CK.out _ NT.out.1).mono ?_;rintro en w5 ⟨rfl,b5,n5,n6,hpm5,ht5⟩))
         go_ret
         rw [HE2.out]
         exact ⟨rfl,b5,n5,n6,_,A6,hpm5,(HT.out.trans NT.out.2).trans ht5⟩
        ·have HE2:=Lib.hid (HE.out.trans (if_neg h1k))
         have h1z:¬ (1000:Int)≤(Q.L.fs.length:Int):=by omega
         clear HE h1k
         go_wp2_with (go_at_call 89;refine (FR.out _ NT.out.1).mono ?_;rintro en w4 ⟨rfl,rfl⟩)
         go_ret
         rw [HE2.out]
         exact ⟨rfl,b',n1,n2,_,A6,NT.out.1,HT.out.trans NT.out.2⟩
     ·have HC1:=Lib.hid (HC0.out.trans (if_neg hE0))
      go_wp2_with (first
       | (go_at_call 96;refine SO.out.mono ?_;rintro en w1 ⟨rfl,hg1,A5,c5,h5,hnl,hlt5⟩;cases h5;have HB1:=Lib.hid (HB.out.grown hg1 HB.out.size HW.out))
       | (go_at_call 97;refine (GT.out _ HB1.out).mono ?_;rintro en w5 ⟨b5,n5,n6,A6,hpm5,ht5,hdis⟩;obtain ⟨_,rfl⟩:=hdis.resolve_right (fun h=>hE0 h.1)))
      go_ret
      rw [HC1.out]
      exact ⟨rfl,b5,n5,n6,t,A6,hpm5,by rw [← HB0.out];exact (Turn.below _ HB1.out).trans ht5⟩
    ·have hk0':((ks.length:Int) == 0)=false:=by rw [beq_eq_false_iff_ne];omega
     go_wp2_with (go_at_call 96;refine SO.out.mono ?_;rintro en w1 ⟨rfl,hg1,A5,c5,h5,hnl,hlt5⟩;cases h5)
     have HB1:=Lib.hid (HB.out.grown hg1 HB.out.size HW.out)
     rw [SD.out] at hnl
     have H1:=Lib.hid (HP.out.below HB1.out)
     have T1:Hid (Turn B0 (allB b g m1 m2 p e h t A) w w1):=Lib.hid (by rw [← HB0.out];exact Turn.below (allB b g m1 m2 p e h t A) HB1.out)
     have NL1:=Lib.hid hnl
     have LT5:=Lib.hid hlt5
     have HCM:Hid (RC=Pl.told (Pl.flush (dirtyN P.ring) P)):=Lib.hid (HC.out.trans (if_neg (fun hx=>by have:=NLen.out;rw [hx] at this;exact hk0 this.symm)))
     have HFD:Hid ((Pl.flush (dirtyN P.ring) P).2=0→(Pl.flush (dirtyN P.ring) P).1.L.D.down=false):=Lib.hid (by have:=HDN.out;unfold Pl.flushed at this;rw [if_neg (fun hx=>by have:=NLen.out;rw [hx] at this;exact hk0 this.symm)] at this;exact this)
     clear hnl hlt5 hg1 SO HRW HPE SD HC HDN HB HSZ
     obtain ⟨NS,hNS⟩:∃ NS,dirtyN P.ring=NS:=⟨_,rfl⟩
     obtain ⟨R0,hR0⟩:∃ R,Pl.flush NS P=R:=⟨_,rfl⟩
     rw [hNS] at NLen NS0 NL1 HCM HFD
     rw [hR0] at HCM HFD
     have HRR:=Lib.hid hR0
     have DIS:Hid (∀ k,AA.map (·.block)=some k→some k∉allB b g m1 m2 p e h t A∧k<w1.heap.size):=Lib.hid (fun k hk=>by
      have h1:=LT5.out k hk
      exact ⟨fun h2=>by have:=HP.out.lt k h2;have:=HR.out;omega,h1.2⟩)
     clear hNS hR0 LT5 SAY HW hk0
     go_loopw [52] (fun v52 wr=>∃ (i:Nat) (b':List (Option Nat)) (m1' m2':Nat) (Q:Pl),v52 = .int .i64 i∧i≤ks.length∧PM wr b' gd g m1' m2' p e h t A Q∧Turn B0 (allB b' g m1' m2' p e h t A) w wr∧NL wr AA NS ∧
      (∀ k,AA.map (·.block)=some k→some k∉allB b' g m1' m2' p e h t A∧k<wr.heap.size)∧Pl.flush (NS.drop i) Q=R0∧Q.ok∧Fit Q.L.D (70004+4*(ks.length-i))∧Q.ring.map (·.n)=P.ring.map (·.n)) (fun v52 _=>ks.length-(intOf v52).toNat)
     case atStart=>exact ⟨0,b,m1,m2,P,rfl,Nat.zero_le _,H1.out,T1.out,NL1.out,DIS.out,HRR.out,OK.out,FIT.out.less (by omega),rfl⟩
     case round =>
      obtain ⟨i,b',n1,n2,Q,rfl,hile,hpm,hTn,hnl,hoff,hfl,hok,hfit,hnm⟩:=hrel
      have HM:=Lib.hid hpm;have HT:=Lib.hid hTn;have HN:=Lib.hid hnl;have HO:=Lib.hid hoff;have HFL:=Lib.hid hfl;have HOK:=Lib.hid hok;have HFT:=Lib.hid hfit;have HNM:=Lib.hid hnm
      clear hpm hTn hnl hoff hfl hok hfit hnm H1 T1 NL1 DIS
      by_cases hi1:i<ks.length
      ·obtain ⟨bk,hAA,hbk,hcell⟩:=HN.out (by have:=NLen.out;omega)
       subst hAA
       have hin:i<NS.length:=by have:=NLen.out;omega
       obtain ⟨n,hn⟩:∃ n,NS[i]=n:=⟨_,rfl⟩
       have c0:wr.cell? ⟨bk,i,none⟩=some (.int .i64 (n:Int)):=hcell i n (by rw [List.getElem?_eq_getElem hin,hn])
       have hmem:n∈Q.ring.map (·.n):=by rw [HNM.out];exact NS0.out n (hn ▸ List.getElem_mem hin)
       have DR:Hid (NS.drop i=n :: NS.drop (i+1)):=Lib.hid (by rw [List.drop_eq_getElem_cons hin,hn])
       obtain ⟨f,hf,hfn⟩:=List.mem_map.1 hmem
       obtain ⟨F1,F2,hF⟩:=List.append_of_mem hf
       have al:=HM.out.ring.len
       obtain ⟨A1,a,A2,hA,hl⟩:∃ A1 a A2,A=A1++a :: A2∧A1.length=F1.length:=by
        have hk:F1.length<A.length:=by rw [al,hF];simp
        exact ⟨A.take F1.length,A[F1.length],A.drop (F1.length+1),split_at hk,by rw [List.length_take];omega⟩
       subst hA
       obtain rfl:f.n=n:=hfn
       have nm:=HOK.out.names
       have HK:Hid (ptrO (heldOf (A1++a :: A2) Q.ring f.n)=ptrB a):=Lib.hid (by rw [hF,heldOf_at (by rw [← hF];exact nm) hl];rfl)
       have hfp:f.n≤65536:=by have:=HOK.out.pages f hf;have:=HOK.out.few;omega
       have WN:=Lib.hid (wfI (x:=(f.n:Int)) (by omega) (by omega))
       have hr:=HM.out.ring
       rw [hF] at hr
       have hat:=hr.at hl
       have a1:wr.cell? ⟨a,1,none⟩=some (.string f.s):=hat.cell 1
       have x0:wr.cell? ⟨p,0,none⟩=some (ptrB g):=HM.out.has.cell 0
       have x3:wr.cell? ⟨p,3,none⟩=some (.map (some h)):=HM.out.has.cell 3
       have x4:wr.cell? ⟨p,4,none⟩=some (.int .i64 Q.pages):=HM.out.has.cell 4
       have HG:=Lib.hid HM.out.held
       have TXT:Hid (textN f.n Q.ring=f.s):=Lib.hid (by rw [hF] at nm ⊢;exact text_mid nm)
       have CLN:Hid (cleanN f.n Q.ring=F1++{ f with dirty:=false } :: F2):=Lib.hid (by rw [hF] at nm ⊢;exact clean_mid nm)
       have HF:=Lib.hid hF
       have HLL:=Lib.hid hl
       clear hcell hmem hf al nm hr hat hF hl hn
       by_cases hlast:i+1<ks.length
       ·have g1:(i:Int)<(ks.length:Int)-1:=by omega
        obtain ⟨m,rs,hdr⟩:∃ m rs,NS.drop (i+1)=m :: rs:=⟨NS[i+1]'(by have:=NLen.out;omega),NS.drop (i+2),by rw [List.drop_eq_getElem_cons (by have:=NLen.out;omega)]⟩
        obtain ⟨E,hE⟩:∃ E,Q.L.appendE f.n f.s=E:=⟨_,rfl⟩
        obtain ⟨L',hL'⟩:∃ L',Q.L.append f.n f.s=L':=⟨_,rfl⟩
        have LOK:L'.ok:=by rw [← hL'];exact append_ok HOK.out.log f.n f.s
        have LFT:Fit L'.D (70004+4*(ks.length-(i+1))):=by rw [← hL'];exact append_fit (HFT.out.less (by omega)) _ _
        have AP:=Lib.hid (fun u (hb:Below wr.heap.size wr u)=>pm_Append (HM.out.below hb) HOK.out.log (HFT.out.less (by omega)) f.n f.s)
        rw [hE,hL'] at AP
        have Fz9:Hid (R0=if E=0 then Pl.flush (NS.drop (i+1)) { Q with L:=L',ring:=F1++{ f with dirty:=false } :: F2 } else ({ Q with L:=L' },E)):=Lib.hid (by
         rw [← HFL.out,DR.out,hdr,← hE,← hL',← CLN.out]
         show Pl.flush _ _=_
         rw [Pl.flush,TXT.out])
        have COK:Hid (Pl.ok { Q with L:=L',ring:=F1++{ f with dirty:=false } :: F2 }):=Lib.hid (by have:=HOK.out.clean LOK f.n;rw [CLN.out] at this;exact this)
        have LFT:=Lib.hid LFT
        clear hE hL' LOK hdr
        have APT:=Lib.hid (fun u (hb:Below wr.heap.size wr u)=>Turn.below (allB b' g n1 n2 p e h t (A1++a :: A2)) hb)
        go_wp2_with (at_lookup;refine wpList_lookup_fr _ rfl _ _ rfl h _ (heldOf (A1++a :: A2) Q.ring) rfl HG.out f.n rfl WN.out ?_;rw [HK.out])
        go_region_with ((go_at_call 98;refine (AP.out _ (by repeat (first | exact Below.refl _ _ | refine Below.drew ?_))).mono ?_;rintro e2 w2 ⟨rfl,b2,n3,n4,hpm2,ht2⟩))
        all_goals
         have HM2:=Lib.hid hpm2
         have HT2:=Lib.hid ((APT.out _ (by repeat (first | exact Below.refl _ _ | refine Below.drew ?_))).trans ht2)
         clear hpm2 ht2 x0 x3 x4 a1 c0
         by_cases hE0:E=0
         ·subst hE0
          have FRM:=Lib.hid (HM2.out.frame (f':={ f with dirty:=false }) HF.out HLL.out 3 (.bool false) rfl (fun x y=>rfl))
          have hr2:=HM2.out.ring
          rw [show ({ Q with L:=L' }:Pl).ring=_ from HF.out] at hr2
          have hat2:=hr2.at HLL.out
          have y3:w2.cell? ⟨a,3,none⟩=some (.bool f.dirty):=hat2.cell 3
          have yf:=hat2.frozen
          clear hr2 hat2
          go_wp2_with fail
          go_roundw
          case rel =>
           refine ⟨i+1,b2,n3,n4,{ Q with L:=L',ring:=F1++{ f with dirty:=false } :: F2 },by simp,by omega,FRM.out.1,(HT.out.trans HT2.out).trans FRM.out.2,HN.out.turn (HT2.out.trans FRM.out.2) (fun k hk=>(HO.out k hk).1),fun k hk=>⟨fun h2=>((HT2.out.trans FRM.out.2).new k h2).elim (HO.out k hk).1 (fun h3=>by have:=(HO.out k hk).2;omega),Nat.lt_of_lt_of_le (HO.out k hk).2 (HT2.out.trans FRM.out.2).size⟩, ?_,COK.out,LFT.out, ?_⟩
           ·have:=Fz9.out;rw [if_pos rfl] at this;exact this.symm
           ·rw [← HNM.out,HF.out];simp
          case measure=>simp [intOf];omega
         ·have HE:RC=({ Q with L:=L' },E):=by rw [HCM.out,Fz9.out,if_neg hE0];exact if_neg hE0
          go_wp2_with fail
          go_ret
          rw [HE]
          exact ⟨rfl,b2,n3,n4,t,_,HM2.out,HT.out.trans HT2.out⟩
       ·have g1:¬ (i:Int)<(ks.length:Int)-1:=by omega
        have hdr:NS.drop (i+1)=[]:=List.drop_eq_nil_of_le (by have:=NLen.out;omega)
        obtain ⟨E,hE⟩:∃ E,Q.L.commitE f.n f.s Q.pages=E:=⟨_,rfl⟩
        obtain ⟨L',hL'⟩:∃ L',Q.L.commit f.n f.s Q.pages=L':=⟨_,rfl⟩
        have LOK:L'.ok:=by rw [← hL'];exact commit_ok HOK.out.log f.n f.s Q.pages
        have LFT:Fit L'.D (70004+4*(ks.length-(i+1))):=by rw [← hL'];exact commit_fit (HFT.out.less (by omega)) _ _ _
        have AP:=Lib.hid (fun u (hb:Below wr.heap.size wr u)=>pm_Commit (HM.out.below hb) HOK.out.log (HFT.out.less (by omega)) f.n f.s Q.pages)
        rw [hE,hL'] at AP
        have Fz9:Hid (R0=if E=0 then Pl.flush (NS.drop (i+1)) { Q with L:=L',ring:=F1++{ f with dirty:=false } :: F2 } else ({ Q with L:=L' },E)):=Lib.hid (by
         rw [← HFL.out,DR.out,hdr,← hE,← hL',← CLN.out]
         simp only [Pl.flush,TXT.out])
        have COK:Hid (Pl.ok { Q with L:=L',ring:=F1++{ f with dirty:=false } :: F2 }):=Lib.hid (by have:=HOK.out.clean LOK f.n;rw [CLN.out] at this;exact this)
        have LFT:=Lib.hid LFT
        clear hE hL' LOK hdr
        have APT:=Lib.hid (fun u (hb:Below wr.heap.size wr u)=>Turn.below (allB b' g n1 n2 p e h t (A1++a :: A2)) hb)
        go_wp2_with (at_lookup;refine wpList_lookup_fr _ rfl _ _ rfl h _ (heldOf (A1++a :: A2) Q.ring) rfl HG.out f.n rfl WN.out ?_;rw [HK.out])
        go_region_with ((go_at_call 40;refine (AP.out _ (by repeat (first | exact Below.refl _ _ | refine Below.drew ?_))).mono ?_;rintro e2 w2 ⟨rfl,b2,n3,n4,hpm2,ht2⟩))
        all_goals
         have HM2:=Lib.hid hpm2
         have HT2:=Lib.hid ((APT.out _ (by repeat (first | exact Below.refl _ _ | refine Below.drew ?_))).trans ht2)
         clear hpm2 ht2 x0 x3 x4 a1 c0
         by_cases hE0:E=0
         ·subst hE0
          have FRM:=Lib.hid (HM2.out.frame (f':={ f with dirty:=false }) HF.out HLL.out 3 (.bool false) rfl (fun x y=>rfl))
          have hr2:=HM2.out.ring
          rw [show ({ Q with L:=L' }:Pl).ring=_ from HF.out] at hr2
          have hat2:=hr2.at HLL.out
          have y3:w2.cell? ⟨a,3,none⟩=some (.bool f.dirty):=hat2.cell 3
          have yf:=hat2.frozen
          clear hr2 hat2
          go_wp2_with fail
          go_roundw
          case rel =>
           refine ⟨i+1,b2,n3,n4,{ Q with L:=L',ring:=F1++{ f with dirty:=false } :: F2 },by simp,by omega,FRM.out.1,(HT.out.trans HT2.out).trans FRM.out.2,HN.out.turn (HT2.out.trans FRM.out.2) (fun k hk=>(HO.out k hk).1),fun k hk=>⟨fun h2=>((HT2.out.trans FRM.out.2).new k h2).elim (HO.out k hk).1 (fun h3=>by have:=(HO.out k hk).2;omega),Nat.lt_of_lt_of_le (HO.out k hk).2 (HT2.out.trans FRM.out.2).size⟩, ?_,COK.out,LFT.out, ?_⟩
           ·have:=Fz9.out;rw [if_pos rfl] at this;exact this.symm
           ·rw [← HNM.out,HF.out];simp
          case measure=>simp [intOf];omega
         ·have HE:RC=({ Q with L:=L' },E):=by rw [HCM.out,Fz9.out,if_neg hE0];exact if_neg hE0
          go_wp2_with fail
          go_ret
          rw [HE]
          exact ⟨rfl,b2,n3,n4,t,_,HM2.out,HT.out.trans HT2.out⟩
      ·obtain rfl:i=ks.length:=by omega
       have HQ:Hid (R0=(Q,0)):=Lib.hid (by have:=HFL.out;rw [← NLen.out,List.drop_length] at this;exact this.symm)
       have NT:=HM.out.newTurned
       rw [World.setCell_alloc_past _ _ _ _ HM.out.has.lt] at NT
       have NT:=Lib.hid NT
       have FR:Hid (∀ wz,PM wz b' gd g n1 n2 p e h wr.heap.size A { Q with turned:=[] }→Calls Tryz.prog 89 #[ptrB g] wz fun e w'=>e = .returned (.int .i64 Q.L.fs.length)∧wz=w'):=fun wz hz=>wal_Frames b' gd g n1 n2 Q.L.rw wz hz.log
       have CK:Hid (∀ wz,PM wz b' gd g n1 n2 p e h wr.heap.size A { Q with turned:=[] }→Calls Tryz.prog 99 #[ptrB g] wz (PmPost (allB b' g n1 n2 p e h wr.heap.size A) wz gd g p e h wr.heap.size A { Q with turned:=[],L:=Q.L.checkpoint.1 } (.int .i64 Q.L.checkpoint.2))):=fun wz hz =>
        pm_Checkpoint hz HOK.out.log (by have:=HFD.out;rw [HQ.out] at this;exact this rfl) (HFT.out.less (by omega))
       have HE:Hid (RC=if 1000≤Q.L.fs.length then ({ Q with turned:=[],L:=Q.L.checkpoint.1 },Q.L.checkpoint.2) else ({ Q with turned:=[] },0)):=Lib.hid (by have:=HCM.out;rw [HQ.out] at this;exact this)
       have x6:wr.cell? ⟨p,6,none⟩=some (.map (some t)):=HM.out.has.cell 6
       have x0:wr.cell? ⟨p,0,none⟩=some (ptrB g):=HM.out.has.cell 0
       have xf:=HM.out.has.frozen
       have xl:=HM.out.has.lt
       have hmk:=make_ii
       clear HFL HCM HFD HQ
       by_cases h1k:1000≤Q.L.fs.length
       ·have HE2:=Lib.hid (HE.out.trans (if_pos h1k))
        have h1z:(1000:Int)≤(Q.L.fs.length:Int):=by omega
        clear HE h1k
        go_wp2_with (first
         | (go_at_call 89;refine (FR.out _ NT.out.1).mono ?_;rintro en w4 ⟨rfl,rfl⟩)
         | (go_at_call 99;refine (CK.out _ NT.out.1).mono ?_;rintro en w5 ⟨rfl,b5,n5,n6,hpm5,ht5⟩))
        go_ret
        rw [HE2.out]
        exact ⟨rfl,b5,n5,n6,_,A,hpm5,(HT.out.trans NT.out.2).trans ht5⟩
       ·have HE2:=Lib.hid (HE.out.trans (if_neg h1k))
        have h1z:¬ (1000:Int)≤(Q.L.fs.length:Int):=by omega
        clear HE h1k
        go_wp2_with (go_at_call 89;refine (FR.out _ NT.out.1).mono ?_;rintro en w4 ⟨rfl,rfl⟩)
        go_ret
        rw [HE2.out]
        exact ⟨rfl,b',n1,n2,_,A,NT.out.1,HT.out.trans NT.out.2⟩
   ·intro x c w1 cnt1 hsx hlx hrg1 hlt hg1 hs1 hen
    obtain ⟨A1,A2,F1,f,F2,hA,hF,hl,hfn⟩:=heldOf_split hsx
    subst hA
    subst hfn
    have HB1:=Lib.hid (HB.out.grown hg1 HB.out.size (fun j hj=>by cases hj;exact Nat.le_of_eq HR.out))
    have hat:=HP.out.ring
    rw [hF] at hat
    have hat:=(hat.at hl).belowS HB1.out
    have a3:w1.cell? ⟨c,3,none⟩=some (.bool f.dirty):=hat.cell 3
    have HO:=Lib.hid (HRW.out.kept hg1 (.inr (fun e5=>by have:=(HRW.out.lt r e5).1;omega)))
    have ST:=Lib.hid (seen_step (left:=left) (by rw [← hF];exact OK.out.names) hlx)
    rw [← hF] at ST
    have HS1:Hid (r+1≤w1.heap.size):=Lib.hid (by rw [hs1];exact HSZ.out)
    clear hat hl hF hsx hs1
    cases hd:f.dirty
    ·rw [hd] at a3 ST
     go_wp2_with go_in
     go_roundw
     case rel=>exact ⟨_,cnt1,ks,hrg1,HO.out,HB1.out,HS1.out,by have:=ST.out;simp at this;exact HPE.out.trans this.symm⟩
     case measure=>rw [hrg1.left_eq,hrg.left_eq];exact hlt
    ·rw [hd] at a3 ST
     go_wp2_with (first
      | (at_builtin;go_loud (refine wpList_append_src _ rfl (.tmp 32) (.tmp 34) 43 43 rfl (r+1) 3 i0 _ 1 8 Tryz.underlying43 hi hz0 hz1 hz2 rfl (by decide) u3 ks.length (pNums ks) rfl (HO.out.alloc _) (.slice (some ⟨w1.heap.size,0,none⟩) 1 1) 1 [.int .i64 (f.n:Int)] rfl (Src.ofSlice _ Tryz.underlying43 ⟨w1.heap.size,0,none⟩ 1 1 [.int .i64 (f.n:Int)] rfl (World.news_of_block (heap_alloc_new w1 _)) (pNums_one (l:=[f.n]))) G1.out G2.out (Nat.le_trans HS1.out (by simp)) ?_);intro v2 w2 hown2 hg2 _ _)
      | go_in)
     have hne:∀ k,k≤r→some k≠Value.ownBlock u3:=fun k hk e5=>by have:=(HO.out.lt k e5.symm).1;omega
     have hhr:h≤r:=by have:=HP.out.held.lt;have:=HR.out;omega
     have hrg2:=(hrg1.alloc (.cells #[.int .i64 (f.n:Int)] 3)).kept hg2 (hne h hhr) (hne r (Nat.le_refl _))
     go_roundw
     case rel =>
      refine ⟨_,cnt1,ks++[f.n],hrg2, ?_,(HB1.out.alloc HB1.out.size _).grown hg2 (by simp;exact Nat.le_trans HB1.out.size (by simp)) (fun j hj=>by have:=(HO.out.lt j hj).1;have:=HR.out;omega),Nat.le_trans HS1.out (Nat.le_trans (by simp) hg2.size),(HPE.out.append_right _).trans ST.out.symm⟩
      have:=hown2
      simpa [pNums] using this
     case measure=>rw [hrg2.left_eq,hrg.left_eq];exact hlt
