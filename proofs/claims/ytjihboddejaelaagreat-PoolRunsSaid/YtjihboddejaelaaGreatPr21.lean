/-
  The reference's pool: Rollback, Checkpoint.
-/
import Derived.Test.YtjihboddejaelaaGreatRefP8q
import Derived.Test.YtjihboddejaelaaGreatPr14
import Derived.Test.YtjihboddejaelaaGreatPr15
import Derived.Test.YtjihboddejaelaaGreatPoolEq
import Derived.Test.YtjihboddejaelaaGreatPr18
import Derived.Test.YtjihboddejaelaaGreatPr4
set_option linter.unusedVariables false
set_option linter.unusedSimpArgs false
namespace Go.Proofs.YtjihboddejaelaaGreat
open Go.RowKit
open Go.BigFrame
set_option maxRecDepth 100000 in
set_option maxHeartbeats 6400000 in
theorem ref_withoutT (rd r q:Nat) (x:Qx) (P:Pl) (i:Nat) (w:World) (h:QM w rd r q x P) (hl:P.ring.length≤1000) (hi:i<P.ring.length) :
 Calls Tryz.prog 166 #[.pointer (some ⟨q,0,none⟩),.int .i64 i] w (fun e w'=>e = .returned (.tuple #[])∧∃ x':Qx,QM w' rd r q x' { P with ring:=P.ring.eraseIdx i }∧Turn x.all x'.all w w'∧x'.T=x.T∧w'.cell? ⟨q,4,none⟩=w.cell? ⟨q,4,none⟩):=by
 have HH:=Lib.hid h
 obtain ⟨A,k,x2,_,hF,_⟩:=h.frames
 have xz:=h.head.2.1
 have HFS:=Lib.hid hF
 obtain ⟨i1,hi1,hz3,hz4,hz5⟩:=info_parts infoHeld
 clear h hF
 go_enter Tryz.func166,Tryz.ntmps166
 go_wp2_with fail
 go_loopw [4,12] (fun v4 v12 wr=>∃ j:Nat,j≤P.ring.length∧v12 = .int .i64 j∧wr.ownsRow w.heap.size 212 4 v4 ((P.ring.take j).eraseIdx i).length (hdCells ((P.ring.take j).eraseIdx i))∧Below w.heap.size w wr) (fun _ v12 _=>P.ring.length-(intOf v12).toNat)
 case atStart=>exact ⟨0,Nat.zero_le _,rfl,World.ownsRow_nil _ _ _ _,Below.refl _ _⟩
 case round =>
  obtain ⟨j,hj,rfl,ho,hb⟩:=hrel
  have HRO:=Lib.hid ho
  have HB:=Lib.hid hb
  clear ho hb
  by_cases hj2:j<P.ring.length
  ·obtain ⟨f,hf⟩:∃ f,P.ring[j]? = some f:=⟨_,List.getElem?_eq_getElem hj2⟩
   obtain ⟨g,rfl,hg,_,hcc⟩:=HFS.out.2 (by omega)
   obtain ⟨a0,a1,a2,a3⟩:=hcc j f hf
   obtain ⟨wcl,wfl⟩:=bcell HB.out
   have d0:=(wcl g (j*4) hg).trans a0
   have d1:=(wcl g (j*4+1) hg).trans a1
   have d2:=(wcl g (j*4+2) hg).trans a2
   have d3:=(wcl g (j*4+3) hg).trans a3
   have HFF:=Lib.hid hf
   clear hcc a0 a1 a2 a3 wcl wfl hf
   by_cases hx:j=i
   ·have e1:((j:Int) != (i:Int))=false:=by rw [bne_eq_false_iff_eq];omega
    have R:=Lib.hid (show (P.ring.take (j+1)).eraseIdx i=(P.ring.take j).eraseIdx i by rw [hx];exact erase_same hi)
    clear hx
    go_wp2_with fail
    go_roundw
    case rel=>exact ⟨j+1,by omega,by simp,by rw [R.out];exact HRO.out.alloc _,HB.out.alloc HB.out.size _⟩
    case measure=>simp [intOf];omega
   ·have e1:((j:Int) != (i:Int))=true:=by rw [bne_iff_ne];omega
    have R:=Lib.hid (erase_next HFF.out hx)
    have hln:((P.ring.take j).eraseIdx i).length≤1000:=by
     have h1:=(List.eraseIdx_sublist (P.ring.take j) i).length_le
     have h2:=List.length_take_le j P.ring
     omega
    have G1:=Lib.hid (show ((P.ring.take j).eraseIdx i).length+1≤maxLen by unfold maxLen;omega)
    have G2:=Lib.hid (show (((P.ring.take j).eraseIdx i).length+1)*40≤140737488355328 by omega)
    clear hln
    go_wp2_with (at_builtin;(refine wpList_append_src _ rfl (.tmp 20) (.tmp 22) 67 67 rfl w.heap.size 212 i1 _ 4 40 Tryz.underlying67 hi1 hz3 hz4 hz5 zeroCellsHeld (by decide) _ ((P.ring.take j).eraseIdx i).length _ rfl ((HRO.out.alloc _).alloc _) (.slice (some ⟨_,0,none⟩) 1 1) 1 (hdC f) rfl (Src.ofSlice _ Tryz.underlying67 ⟨_,0,none⟩ 1 1 (hdC f) rfl (World.news_of_block (heap_alloc_new2 _ _ _)) (hdC_one f)) G1.out G2.out (Nat.le_trans HB.out.size (by simp;omega)) ?_);intro v1 w6 hown1 hg1 _ hat1;have HO6:=Lib.hid hown1;have HB6:=Lib.hid ((((HB.out.alloc HB.out.size _).alloc (Nat.le_trans HB.out.size (by simp)) _).grown hg1 (Nat.le_trans HB.out.size (by simp;omega)) (fun k hk=>(HRO.out.lt k hk).1)));clear hown1 hg1 hat1)
    go_roundw
    case rel=>exact ⟨j+1,by omega,by simp,by rw [R.out,hdCells_snoc,List.length_append];exact HO6.out,HB6.out⟩
    case measure=>simp [intOf];omega
  ·obtain rfl:j=P.ring.length:=by omega
   obtain ⟨A6,k6,rfl,_⟩:=own_form HRO.out
   have E:=Lib.hid (show P.ring.take P.ring.length=P.ring from List.take_length)
   rw [E.out] at HRO ⊢
   have HQ:=Lib.hid (HH.out.below HB.out)
   have yz:=HQ.out.head.2.1
   have yf:=HQ.out.head.2.2
   obtain ⟨vv,hvv⟩:∃ vv,w.cell? ⟨q,2,none⟩=some vv:=⟨_,x2⟩
   have y2:wr.cell? ⟨q,2,none⟩=some vv:=((bcell HB.out).1 q 2 xz).trans hvv
   go_wp2_with fail
   go_end0
   have hlow:∀ k,Value.ownBlock (.slice A6 (P.ring.eraseIdx i).length k6)=some k→w.heap.size≤k:=fun k hk=>(HRO.out.lt k hk).1
   obtain ⟨k',q1,q2⟩:=HH.out.newRing (P':={ P with ring:=P.ring.eraseIdx i }) (w':=wr) hvv (below_grownBy HB.out) (own_mono0 HRO.out) (.inr hlow) rfl rfl (fun v vt=>rfl)
   exact ⟨rfl,_,q1,q2,rfl,(World.cell?_setCell_other _ ⟨q,2,none⟩ ⟨q,4,none⟩ _ (by simp)).trans ((bcell HB.out).1 q 4 xz)⟩
def leftF (F:List Pf) (T:List Nat) (j:Nat):List Pf:=F.filter (fun f=>!decide (f.n∈T.take j))
theorem leftF_zero (F:List Pf) (T:List Nat):leftF F T 0=F:=List.filter_eq_self.2 fun f _=>by simp
theorem leftF_succ {F:List Pf} {T:List Nat} {j n:Nat} (h:T[j]? = some n):leftF F T (j+1)=dropN n (leftF F T j):=by
 unfold leftF dropN
 rw [List.filter_filter]
 refine List.filter_congr fun f _=>?_
 rw [List.take_add_one,h]
 simp only [Option.toList_some,List.mem_append,List.mem_singleton]
 by_cases h1:f.n=n <;> by_cases h2:f.n∈T.take j <;> simp [h1,h2]
theorem leftF_all {F:List Pf} {T U:List Nat} (h:Same T U):leftF F T T.length=F.filter (fun f=>!(decide (f.n∈U))):=by
 unfold leftF
 refine List.filter_congr fun f _=>?_
 rw [List.take_length]
 by_cases h1:f.n∈U
 ·rw [decide_eq_true h1,decide_eq_true ((h f.n).2 h1)]
 ·rw [decide_eq_false h1,decide_eq_false (fun h2=>h1 ((h f.n).1 h2))]
theorem leftF_names {F:List Pf} (h:(F.map (·.n)).Nodup) (T:List Nat) (j:Nat):((leftF F T j).map (·.n)).Nodup:=h.sublist (List.filter_sublist.map _)
theorem leftF_len (F:List Pf) (T:List Nat) (j:Nat):(leftF F T j).length≤F.length:=List.length_filter_le _ _
set_option maxRecDepth 100000 in
set_option maxHeartbeats 6400000 in
theorem ref_PCheckpoint (rd r q:Nat) (x:Qx) (P:Pl) (w:World) (h:QM w rd r q x P) (ok:P.L.ok) (hd:P.L.D.down=false) (hfit:Fit P.L.D 70000) :
 Calls Tryz.prog 86 #[.pointer (some ⟨q,0,none⟩)] w (QPost2 w rd r q x 0 P.check.1 (.int .i64 P.check.2)):=by
 have HH:=Lib.hid h
 obtain ⟨AT,kt,x4,_,_,_⟩:=h.list
 have xz:=h.head.2.1
 have x0:=h.cells.1
 have CK:=Lib.hid (qm_Checkpoint h ok hfit hd)
 by_cases hT:P.turned=[]
 ·have hl:x.T.length=0:=(same_nil h.same).2 hT
  rw [hl] at x4
  have HE:Hid (P.check=({ P with L:=P.L.checkpoint.1 },P.L.checkpoint.2)):=if_pos hT
  rw [HE.out]
  clear h ok hfit hT hd hl
  go_enter Tryz.func86,Tryz.ntmps86
  go_wp2_with (go_at_call 162;(with_reducible refine CK.out.mono ?_);rintro en w5 ⟨rfl,x5,hq5,ht5,hn5⟩)
  go_ret
  exact ⟨rfl,x5,hq5,ht5,hn5⟩
 ·have g0:(0:Int)<(x.T.length:Int):=by
   have:¬ x.T.length=0:=fun h2=>hT ((same_nil h.same).1 h2)
   omega
  have HE:Hid (P.check=(P,11)):=if_neg hT
  rw [HE.out]
  clear h ok hfit hT hd CK
  go_enter Tryz.func86,Tryz.ntmps86
  go_wp2_with fail
  go_ret
  exact QPost2.refl HH.out 0
set_option maxRecDepth 100000 in
set_option maxHeartbeats 6400000 in
theorem ref_Rollback (rd r q:Nat) (x:Qx) (P:Pl) (w:World) (h:QM w rd r q x P) (ok:P.ok) (ok2:P.rolled.ok) (hd:P.L.D.down=false) (fit:Fit P.L.D 1) (hT:x.T.length≤1000000) (l:Nat) (hl2:l≤2147483647) (hR:(P.rolled.get 0).2=0→(P.rolled.get 0).1.lastF.s=sealS 4 l []) :
 Calls Tryz.prog 84 #[.pointer (some ⟨q,0,none⟩)] w (QPost2 w rd r q x 0 P.rollback.1 (.int .i64 P.rollback.2)):=by
 have HH:=Lib.hid h
 obtain ⟨A,k,x2,_,hF,_⟩:=h.frames
 have xz:=h.head.2.1
 have HFS:=Lib.hid hF
 have hl:P.ring.length≤64:=Nat.le_trans ok.full ok.most
 have OK:=Lib.hid ok
 have BK:=Lib.hid (fun u (hu:QM u rd r q x P)=>qm_Back hu ok.log)
 have RDR:=Lib.hid (fun u x' (hu:QM u rd r q x' P.rolled)=>ref_PRead rd r q x' P.rolled 0 u hu ok2 hd fit (by
  show (P.L.fs.take P.L.kept).length≤_
  have:=ok.log.len;rw [List.length_take];omega))
 have HX:Hid (((P.rollback=(P,6)∧∃ f∈P.ring,0<f.pins)∨((∀ f∈P.ring,f.pins=0)∧P.rollback.2=(P.rolled.get 0).2∧∀ w x,QM w rd r q x (P.rolled.get 0).1→QM w rd r q x P.rollback.1))):=by
  by_cases hp:P.ring.any (fun f=>decide (0<f.pins))=true
  ·obtain ⟨f,h1,h2⟩:=List.any_eq_true.1 hp
   exact .inl ⟨if_pos hp,f,h1,by simpa using h2⟩
  ·refine .inr ⟨fun f hf=>?_, ?_⟩
   ·have hp2:∀ x∈P.ring,x.pins=0:=by simpa using hp
    exact hp2 f hf
   ·have e:P.rollback=P.rolled.root:=if_neg hp
    rw [e]
    unfold Pl.root
    by_cases h0:(P.rolled.get 0).2=0
    ·rw [if_pos h0,hR h0,open_root hl2]
     exact ⟨h0.symm,fun w x h=>h.withFree _⟩
    ·rw [if_neg h0];exact ⟨rfl,fun w x h=>h⟩
 clear h ok ok2 hF hd fit hl2 hR
 obtain ⟨RB,hRB⟩:∃ R,P.rollback=R:=⟨_,rfl⟩
 rw [hRB] at HX ⊢
 clear hRB
 go_enter Tryz.func84,Tryz.ntmps84
 go_wp2_with fail
 go_loopw [15] (fun v15 wr=>∃ j:Nat,j≤P.ring.length∧v15 = .int .i64 j∧(∀ (i:Nat) (g:Pf),i<j→P.ring[i]? = some g→g.pins=0)∧Below w.heap.size w wr) (fun v15 _=>P.ring.length-(intOf v15).toNat)
 case atStart=>exact ⟨0,Nat.zero_le _,rfl,fun i g hi _=>absurd hi (by omega),Below.refl _ _⟩
 case round =>
  obtain ⟨j,hj,rfl,he,hb⟩:=hrel
  have HE:=Lib.hid he
  have HB:=Lib.hid hb
  clear he hb
  by_cases hj2:j<P.ring.length
  ·obtain ⟨f,hf⟩:∃ f,P.ring[j]? = some f:=⟨_,List.getElem?_eq_getElem hj2⟩
   obtain ⟨g,rfl,hg,_,hcc⟩:=HFS.out.2 (by omega)
   obtain ⟨a0,a1,a2,a3⟩:=hcc j f hf
   obtain ⟨wcl,wfl⟩:=bcell HB.out
   have d0:=(wcl g (j*4) hg).trans a0
   have d1:=(wcl g (j*4+1) hg).trans a1
   have d2:=(wcl g (j*4+2) hg).trans a2
   have d3:=(wcl g (j*4+3) hg).trans a3
   have HFF:=Lib.hid hf
   clear hcc a0 a1 a2 a3 wcl wfl hf
   by_cases hp0:f.pins=0
   ·rw [hp0] at d2
    have d2:wr.cell? ⟨g,j*4+2,none⟩=some (.int .i64 0):=d2
    have HP0:=Lib.hid hp0
    clear hp0
    go_wp2_with fail
    go_roundw
    case rel=>exact ⟨j+1,by omega,by simp,fun i g hi hg=>by
     rcases Nat.lt_or_ge i j with h1 | h1
     ·exact HE.out i g h1 hg
     ·obtain rfl:i=j:=by omega
      rw [HFF.out] at hg;cases hg;exact HP0.out,HB.out.alloc HB.out.size _⟩
    case measure=>simp [intOf];omega
   ·have g0:(0:Int)<(f.pins:Int):=by omega
    have HRB:Hid (RB=(P,6)):=by
     rcases HX.out with ⟨h1,_⟩ | ⟨h1,_⟩
     ·exact h1
     ·exact absurd (h1 f (List.mem_of_getElem? HFF.out)) hp0
    clear hp0
    go_wp2_with fail
    go_ret
    rw [HRB.out]
    have hb2:=HB.out.alloc HB.out.size (.cells #[.int .i64 f.n,.string f.s,.int .i64 f.pins,.bool f.dirty] 212)
    exact ⟨rfl,x,HH.out.below hb2,Turn.below _ hb2,Nat.le_add_right ..⟩
  ·obtain rfl:j=P.ring.length:=by omega
   have HX2:Hid (RB.2=(P.rolled.get 0).2∧∀ w x,QM w rd r q x (P.rolled.get 0).1→QM w rd r q x RB.1):=by
    rcases HX.out with ⟨_,f,h1,h2⟩ | ⟨_,h2⟩
    ·obtain ⟨i,hi,rfl⟩:=List.getElem_of_mem h1
     have:=HE.out i _ hi (List.getElem?_eq_getElem hi)
     omega
    ·exact h2
   have HD:=Lib.hid (HH.out.below HB.out)
   have y0:=HD.out.cells.1
   have yz:=HD.out.head.2.1
   clear HX HE x2 hj2 hj
   go_upto_region 8 with (go_at_call 165;(with_reducible refine (BK.out _ HD.out).mono ?_);rintro e w2 ⟨rfl,x2,hq2,ht2,hn2⟩)
   have HQ2:=Lib.hid hq2
   have HT2:=Lib.hid ((Turn.below x.all HB.out).trans ht2)
   obtain ⟨AT,kt,x4,_,hto,_⟩:=hq2.list
   have X4:=Lib.hid x4
   have vz:=hq2.head.2.1
   have SMT:=Lib.hid hq2.same
   have NN:=Lib.hid hn2
   have hT2:x2.T.length≤1000000:=by omega
   clear hq2 ht2 hto hn2
   go_wp2_with fail
   go_loopw [33] (fun v33 wr=>∃ (j:Nat) (x':Qx),j≤x2.T.length∧v33 = .int .i64 j∧QM wr rd r q x' { P with L:=P.L.back,ring:=leftF P.ring x2.T j }∧Turn x.all x'.all w wr∧x'.T=x2.T∧wr.cell? ⟨q,4,none⟩=some (.slice AT x2.T.length kt)) (fun v33 _=>x2.T.length-(intOf v33).toNat)
   case atStart=>exact ⟨0,x2,Nat.zero_le _,rfl,by rw [leftF_zero];exact HQ2.out,HT2.out,rfl,X4.out⟩
   case round =>
    obtain ⟨j,x3,hj,rfl,hqm,htn,hxt,hc4⟩:=hrel
    have HM:=Lib.hid hqm
    have HT:=Lib.hid htn
    have XT:=Lib.hid hxt
    have C4:=Lib.hid hc4
    have mz:=hqm.head.2.1
    have mf:=hqm.head.2.2
    have hlf:(leftF P.ring x2.T j).length≤64:=Nat.le_trans (leftF_len _ _ _) hl
    clear hqm htn hxt HQ2 HT2 x4 vz y0 yz HD HB
    by_cases hj2:j<x2.T.length
    ·obtain ⟨n,hn⟩:∃ n,x2.T[j]? = some n:=⟨_,List.getElem?_eq_getElem hj2⟩
     have hNL:NL wr AT x2.T:=by
      obtain ⟨A9,k9,c9,_,o9,_⟩:=HM.out.list
      rw [XT.out] at c9 o9
      have e9:A9=AT:=by have:=Option.some.inj (c9.symm.trans C4.out);cases this;rfl
      rw [e9] at o9
      exact NL.of_own o9
     obtain ⟨bk,rfl,hbk,hcell⟩:=hNL (by omega)
     have c0:=hcell j n hn
     have LS:=Lib.hid (leftF_succ (F:=P.ring) hn)
     have NM:=Lib.hid (leftF_names OK.out.names x2.T j)
     have FD:=Lib.hid (ref_find rd r q x3 _ n _ HM.out (by show (leftF P.ring x2.T j).length≤1000;omega))
     have WT:=Lib.hid (fun u i (hu:QM u rd r q x3 { P with L:=P.L.back,ring:=leftF P.ring x2.T j }) (hi:i<(leftF P.ring x2.T j).length)=>ref_withoutT rd r q x3 { P with L:=P.L.back,ring:=leftF P.ring x2.T j } i u hu (by show (leftF P.ring x2.T j).length≤1000;omega) hi)
     obtain ⟨F4,hF4⟩:∃ F,leftF P.ring x2.T j=F:=⟨_,rfl⟩
     simp only [hF4] at HM FD WT NM LS hlf
     clear hcell hn hF4 hNL
     rcases idx_cases n F4 with ⟨c1,c2⟩ | ⟨i,f,c1,c2,c3,c4,c5⟩
     ·have LS2:Hid (leftF P.ring x2.T (j+1)=F4):=by
       have:dropN n F4=F4:=List.filter_eq_self.2 fun f hf=>by
        have:=find_none c1 f hf
        simp;omega
       rw [LS.out,this];exact Lib.hid rfl
      rw [c2] at FD
      clear c1 c2
      go_wp2_with (go_at_call 157;(with_reducible refine FD.out.mono ?_);rintro e w1 ⟨rfl,hb1⟩;have HB1:=Lib.hid hb1;have c4':=((bcell hb1).1 q 4 mz).trans C4.out;clear hb1)
      go_roundw
      case rel=>exact ⟨j+1,x3,by omega,by simp,by rw [LS2.out];exact HM.out.below HB1.out,HT.out.trans (Turn.below _ HB1.out),XT.out,c4'⟩
      case measure=>simp [intOf];omega
     ·have hi:=(List.getElem?_eq_some_iff.1 c1).1
      have LS2:Hid (leftF P.ring x2.T (j+1)=F4.eraseIdx i):=by
       rw [LS.out,← dropN_erase NM.out c1,show f.n=n by omega];exact Lib.hid rfl
      rw [c4] at FD
      have hi64:i≤64:=by omega
      clear c1 c2 c3 c4 c5
      go_wp2_with (first | (go_at_call 157;(with_reducible refine FD.out.mono ?_);rintro e w1 ⟨rfl,hb1⟩;have HB1:=Lib.hid hb1;have c4':=((bcell hb1).1 q 4 mz).trans C4.out;clear hb1) | (go_at_call 166;(with_reducible refine (WT.out _ _ (HM.out.below HB1.out) hi).mono ?_);rintro e w3 ⟨rfl,x5,hq5,ht5,hxt5,hc5⟩;have HQ5:=Lib.hid hq5;have HT5:=Lib.hid ((HT.out.trans (Turn.below _ HB1.out)).trans ht5);have XT5:=Lib.hid (hxt5.trans XT.out);have C5:=Lib.hid (hc5.trans c4');clear hq5 ht5 hxt5 hc5))
      go_roundw
      case rel=>exact ⟨j+1,x5,by omega,by simp,by rw [LS2.out];exact HQ5.out,HT5.out,XT5.out,C5.out⟩
      case measure=>simp [intOf];omega
    ·obtain rfl:j=x2.T.length:=by omega
     have LA:=Lib.hid (leftF_all (F:=P.ring) SMT.out)
     obtain ⟨k',q1,t1⟩:=HM.out.newList (P':={ P with L:=P.L.back,ring:=leftF P.ring x2.T x2.T.length,turned:=[] }) (T':=[]) (w':=wr) (v':=.slice none 0 0) C4.out (grownBy_refl _ _) (World.ownsRow_nil _ _ _ _) (.inr (fun k hk=>by cases hk)) rfl rfl (fun n=>Iff.rfl) (fun _ _=>rfl)
     have Q1:=Lib.hid q1
     have T1:=Lib.hid (HT.out.trans t1)
     obtain ⟨u0,_,u3,_,_,_⟩:=HM.out.cells
     have PG:Hid (∀ u x',QM u rd r q x' { P with L:=P.L.back,ring:=leftF P.ring x2.T x2.T.length,turned:=[] }→Calls Tryz.prog 65 #[.pointer (some ⟨r,0,none⟩)] u fun e w'=>e = .returned (.int .i64 P.L.pages)∧u=w'):=fun u x' hu=>ref_Pages x'.b rd r x'.c P.L.back u hu.log
     have LAQ:Hid (∀ u x',QM u rd r q x' { P with L:=P.L.back,ring:=leftF P.ring x2.T x2.T.length,turned:=[],pages:=P.L.pages }→QM u rd r q x' P.rolled):=fun u x' hu=>by
      have e:({ P with L:=P.L.back,ring:=leftF P.ring x2.T x2.T.length,turned:=[],pages:=P.L.pages }:Pl)=P.rolled:=by rw [LA.out];rfl
      rw [← e];exact hu
     have ST:=Lib.hid (Q1.out.set (P':={ P with L:=P.L.back,ring:=leftF P.ring x2.T x2.T.length,turned:=[],pages:=P.L.pages }) 3 (.int .i64 P.L.pages) rfl rfl rfl (fun _ _=>rfl))
     have RD:=Lib.hid (RDR.out _ _ (LAQ.out _ _ ST.out.1))
     obtain ⟨E9,hE9⟩:∃ E,(P.rolled.get 0).2=E:=⟨_,rfl⟩
     obtain ⟨R9,hR9⟩:∃ E,(P.rolled.get 0).1=E:=⟨_,rfl⟩
     obtain ⟨S9,hS9⟩:∃ E,P.rolled.text 0=E:=⟨_,rfl⟩
     rw [hE9,hR9,hS9] at RD
     rw [hE9,hR9] at HX2
     clear q1 t1 hE9 hR9 hS9
     go_wp2_with (first | (go_at_call 65;(with_reducible refine (PG.out _ _ Q1.out).mono ?_);rintro e w4 ⟨rfl,rfl⟩) | (go_at_call 71;(with_reducible refine RD.out.mono ?_);rintro e w5 ⟨rfl,x5,hq5,ht5,hn5⟩))
     go_ret
     rw [HX2.out.1]
     exact ⟨rfl,x5,HX2.out.2 _ _ hq5,(T1.out.trans ST.out.2).trans ht5,Nat.le_trans hn5 (by simp)⟩
end Go.Proofs.YtjihboddejaelaaGreat
namespace Go.Proofs.YtjihboddejaelaaGreat
open Go.RowKit
open Go.BigFrame
theorem QM.made {w:World} {b c:List (Option Nat)} {rd r:Nat} {L:Lg} (h:LQ w b rd r c L) (most:Nat) :
 ∃ k,QM (w.alloc (.cells #[.pointer (some ⟨r,0,none⟩),.int .i64 most,.slice none 0 0,.int .i64 L.pages,.slice none 0 0,.int .i64 0,.int .i64 0,.int .i64 0] 71)) rd r w.heap.size ⟨b,c,k,[]⟩ (Pl.fresh L most) ∧
   Turn (b++c) (Qx.all ⟨b,c,k,[]⟩) w (w.alloc (.cells #[.pointer (some ⟨r,0,none⟩),.int .i64 most,.slice none 0 0,.int .i64 L.pages,.slice none 0 0,.int .i64 0,.int .i64 0,.int .i64 0] 71)):=by
 have hb:=(Below.refl w.heap.size w).alloc (Nat.le_refl _) (.cells #[.pointer (some ⟨r,0,none⟩),.int .i64 most,.slice none 0 0,.int .i64 L.pages,.slice none 0 0,.int .i64 0,.int .i64 0,.int .i64 0] 71)
 have hk:∀ k,some k∈blks w.heap.size [rowH (.slice none 0 0) [],rowI (.slice none 0 0) []]→k=w.heap.size:=fun k hk=>by
  rcases List.mem_cons.1 hk with e | h2
  ·cases e;rfl
  ·simp [rowH,rowI,Value.ownBlock] at h2
 refine ⟨blks w.heap.size [rowH (.slice none 0 0) [],rowI (.slice none 0 0) []],⟨h.below hb,⟨.slice none 0 0,.slice none 0 0,rfl,⟨Has.new _ _ _,fun x hx=>?_, ?_⟩⟩,fun k hk2 h3=>?_,fun n=>Iff.rfl⟩,(Turn.below (b++c) hb).trans' (Turn.refl [] _) (fun k h2=>by cases h2) (fun k h2=>?_)⟩
 ·rcases List.mem_cons.1 hx with rfl | hx
  ·exact World.ownsRow_nil _ _ _ _
  ·rw [List.mem_singleton.1 hx];exact World.ownsRow_nil _ _ _ _
 ·refine List.pairwise_cons.2 ⟨fun y hy k e=>?_,List.pairwise_cons.2 ⟨fun y hy k e=>?_,List.pairwise_singleton _ _⟩⟩
  ·simp only [List.map_cons,List.map_nil,List.mem_cons,List.not_mem_nil,or_false] at hy
   rcases hy with rfl | rfl <;> exact fun h2=>by cases h2
  ·cases e
 ·have:=hk k h3;have:=h.lt hk2;omega
 ·rcases List.mem_append.1 h2 with h3 | h3
  ·exact .inl h3
  ·exact .inr (Nat.le_of_eq (hk k h3).symm)
def OpenedPostR (w:World) (b:List (Option Nat)) (rd:Nat) (P:Pl) (e:Ending) (w':World):Prop :=
 ∃ (r q:Nat) (x:Qx),e = .returned (.tuple #[.pointer (some ⟨q,0,none⟩),.int .i64 0])∧QM w' rd r q x P∧Turn b x.all w w'∧x.T=[]
theorem lq_Commit {w:World} {b c:List (Option Nat)} {rd r:Nat} {L:Lg} (h:LQ w b rd r c L) (ok:L.ok) (fit:Fit L.D 4) (n:Int) (s:ByteArray) (p:Int) (hs:s.size≤9223372036854775807) :
 Calls Tryz.prog 67 #[.pointer (some ⟨r,0,none⟩),.int .i64 n,.string s,.int .i64 p] w (QPost w b rd r c (L.commit n s p) (.int .i64 (L.commitE n s p))) :=
 ref_Commit b rd r c L n s p w h fit ok.slot ok.number (by have:=ok.len;omega) hs
theorem lq_Read {w:World} {b c:List (Option Nat)} {rd r:Nat} {L:Lg} (h:LQ w b rd r c L) (ok:L.ok) (hd:L.D.down=false) (hws:L.D.waits.length≤1000000000) (n:Int) :
 Calls Tryz.prog 68 #[.pointer (some ⟨r,0,none⟩),.int .i64 n] w fun e w'=>e = .returned (.tuple #[.string (L.rw.readS n),.int .i64 (L.rw.readE n)])∧Below w.heap.size w w':=by
 rw [← (rw_read ok hd n).1,← (rw_read ok hd n).2]
 exact ref_Read b rd r c L n w h ok.disk hws hd (by have:=ok.len;omega)
set_option maxRecDepth 100000 in
set_option maxHeartbeats 6400000 in
theorem ref_OpenPool (b:List (Option Nat)) (rd:Nat) (D:Dk) (most:Nat) (h8:8≤most) (h64:most≤64) (w:World) (h:RP w b rd D) (fit:Fit D 8) (hc:D.calm) (ok:(Lg.opened D).ok) (fit2:Fit (Lg.opened D).D 4)
 (hC:(Lg.opened D).pages=0→(Lg.opened D).commitE 0 metaS 1=0) (fitB:Fit (Pl.begun D).D 0) (hup:(Pl.begun D).D.down=false) (l:Nat) (hl:l≤2147483647) (hE:(Pl.begun D).rw.readE 0=0) (hS:(Pl.begun D).rw.readS 0=sealS 4 l []) :
 Calls Tryz.prog 19 #[.pointer (some ⟨rd,0,none⟩),.int .i64 most] w (OpenedPostR w b rd (Pl.opened D most).1):=by
 have OL:=Lib.hid (ref_OpenLog b rd D w h (fit.less (by omega)) hc)
 have IN:=Lib.hid (fun w1=>ref_inB most 8 64 w1)
 rw [inB_yes (by omega) (by omega)] at IN
 have BG:Hid (Pl.begun D=if (Lg.opened D).pages=0 then (Lg.opened D).commit 0 metaS 1 else Lg.opened D):=rfl
 have BOK:(Pl.begun D).ok:=by
  rw [BG.out];split
  ·exact commit_ok ok 0 metaS 1
  ·exact ok
 have RD:=Lib.hid (fun u b1 c1 r (hu:LQ u b1 rd r c1 (Pl.begun D))=>lq_Read hu BOK hup (by have:=fitB.waits;omega) 0)
 rw [hE,hS] at RD
 have OP:=Lib.hid (fun w1=>ref_OpenRoot l hl w1)
 obtain ⟨S,hSS⟩:∃ S,sealS 4 l []=S:=⟨_,rfl⟩
 rw [hSS] at RD OP
 have PO:Hid (∀ u rd r q x,QM u rd r q x (Pl.fresh (Pl.begun D) most)→QM u rd r q x (Pl.opened D most).1):=fun u rd r q x hu=>by
  unfold Pl.opened Pl.forgot
  rw [if_pos hE,hS,open_root hl]
  exact hu.withFree l
 have OK:=Lib.hid ok
 have FIT:=Lib.hid fit2
 have HC:=Lib.hid hC
 obtain ⟨PP,hPP⟩:∃ P,(Pl.opened D most).1=P:=⟨_,rfl⟩
 rw [hPP] at PO ⊢
 obtain ⟨LB,hLB⟩:∃ L,Pl.begun D=L:=⟨_,rfl⟩
 rw [hLB] at BG RD PO
 obtain ⟨L,hL⟩:∃ L,Lg.opened D=L:=⟨_,rfl⟩
 rw [hL] at OL BG OK FIT HC
 have m1:(most:Int)≤64:=by omega
 clear h fit hc ok fit2 hC hL hLB hPP hSS hE hS BOK hup fitB hl
 have PG:Hid (∀ b1 c1 r w1 (M:Lg),LQ w1 b1 rd r c1 M→Calls Tryz.prog 65 #[.pointer (some ⟨r,0,none⟩)] w1 fun e w'=>e = .returned (.int .i64 M.pages)∧w1=w'):=fun b1 c1 r w1 M hq=>ref_Pages b1 rd r c1 M w1 hq
 have MD:Hid (∀ b1 c1 r w1,LQ w1 b1 rd r c1 LB→∃ k,QM (w1.alloc (.cells #[.pointer (some ⟨r,0,none⟩),.int .i64 most,.slice none 0 0,.int .i64 LB.pages,.slice none 0 0,.int .i64 0,.int .i64 0,.int .i64 0] 71)) rd r w1.heap.size ⟨b1,c1,k,[]⟩ PP ∧
  Turn (b1++c1) (Qx.all ⟨b1,c1,k,[]⟩) w1 (w1.alloc (.cells #[.pointer (some ⟨r,0,none⟩),.int .i64 most,.slice none 0 0,.int .i64 LB.pages,.slice none 0 0,.int .i64 0,.int .i64 0,.int .i64 0] 71))):=fun b1 c1 r w1 hq=>by
  obtain ⟨k,q1,q2⟩:=QM.made hq most
  exact ⟨k,PO.out _ _ _ _ _ q1,q2⟩
 by_cases hp0:L.pages=0
 ·have BG2:=Lib.hid (BG.out.trans (if_pos hp0))
  have CE:=HC.out hp0
  have SB:=Lib.hid (fun w1=>ref_SealF 4 0 none 0 w1)
  rw [show (((0:Nat)):Int)=0 from rfl,show (((4:Nat)):Int)=4 from rfl] at SB
  have MS:metaS.size≤9223372036854775807:=by
   have:metaS.size=1024:=root_len (l:=0) (by omega)
   omega
  have CM:=Lib.hid (fun b1 c1 r w1 (hq:LQ w1 b1 rd r c1 L)=>lq_Commit hq OK.out FIT.out 0 metaS 1 MS)
  rw [CE,← BG2.out] at CM
  have PG0:Hid (∀ b1 c1 r w1,LQ w1 b1 rd r c1 L→Calls Tryz.prog 65 #[.pointer (some ⟨r,0,none⟩)] w1 fun e w'=>e = .returned (.int .i64 0)∧w1=w'):=fun b1 c1 r w1 hq=>by
   have:=PG.out _ _ _ _ _ hq
   rw [hp0] at this;exact this
  obtain ⟨S4,hS4⟩:∃ S,metaS=S:=⟨_,rfl⟩
  have hS42:sealS 4 0 []=S4:=hS4
  obtain ⟨E4,hE4⟩:∃ E,sealE 4 0 []=E:=⟨_,rfl⟩
  rw [hS42,hE4] at SB
  rw [hS4] at CM
  have PGB:Hid (∀ b1 c1 r w1,LQ w1 b1 rd r c1 LB→Calls Tryz.prog 65 #[.pointer (some ⟨r,0,none⟩)] w1 fun e w'=>e = .returned (.int .i64 LB.pages)∧w1=w'):=fun b1 c1 r w1 hq=>PG.out _ _ _ _ _ hq
  clear CE hS4 hS42 hE4 BG hp0 HC BG2 FIT OK MS PG
  go_enter Tryz.func19,Tryz.ntmps19
  go_upto_region 12 with (first
   | (go_at_call 63;refine (IN.out _).mono ?_;rintro e w1 ⟨rfl,rfl⟩)
   | (go_at_call 64;(with_reducible refine OL.out.mono ?_);rintro en w1 ⟨r,b1,c1,rfl,hlq,ht⟩;have HL:=Lib.hid hlq;have HT:=Lib.hid ht;clear hlq ht)
   | (go_at_call 66;(with_reducible refine (SB.out _).mono ?_);rintro en w3 ⟨rfl,hb3⟩;have HL3:=Lib.hid (HL.out.below hb3);have HT3:=Lib.hid (HT.out.trans (Turn.below _ hb3));clear hb3)
   | (go_at_call 67;(with_reducible refine (CM.out _ _ _ _ HL3.out).mono ?_);rintro en w4 ⟨rfl,b4,c4,hl4,ht4⟩;have HL4:=Lib.hid hl4;have HT4:=Lib.hid (HT3.out.trans ht4);clear hl4 ht4)
   | (go_at_call 65;(with_reducible refine (PGB.out _ _ _ _ HL4.out).mono ?_);rintro en w2 ⟨rfl,rfl⟩)
   | (go_at_call 65;(with_reducible refine (PG0.out _ _ _ _ HL.out).mono ?_);rintro en w2 ⟨rfl,rfl⟩))
  obtain ⟨k5,q5,t5⟩:=MD.out _ _ _ _ HL4.out
  have Q5:=Lib.hid q5
  have T5:=Lib.hid (HT4.out.trans t5)
  clear q5 t5
  go_wp2_with (first
   | (go_at_call 68;(with_reducible refine (RD.out _ _ _ _ (HL4.out.below ((Below.refl _ _).alloc (Nat.le_refl _) _))).mono ?_);rintro en w6 ⟨rfl,hb6⟩;have HB6:=Lib.hid hb6;clear hb6)
   | (go_at_call 69;(with_reducible refine (OP.out _).mono ?_);rintro en w7 ⟨A7,c7,rfl,hb7⟩;have HB7:=Lib.hid (bel_step HB6.out hb7 HB6.out.size)))
  go_ret2
  exact ⟨_,_,_,rfl,Q5.out.below HB7.out,T5.out.trans (Turn.below _ HB7.out),rfl⟩
 ·have BG2:=Lib.hid (BG.out.trans (if_neg hp0))
  have e0:((L.pages:Int) == 0)=false:=by rw [beq_eq_false_iff_ne];omega
  have EQ:LB=L:=BG2.out
  subst EQ
  have PGB:Hid (∀ b1 c1 r w1,LQ w1 b1 rd r c1 LB→Calls Tryz.prog 65 #[.pointer (some ⟨r,0,none⟩)] w1 fun e w'=>e = .returned (.int .i64 LB.pages)∧w1=w'):=fun b1 c1 r w1 hq=>PG.out _ _ _ _ _ hq
  clear BG hp0 HC BG2 FIT OK PG
  go_enter Tryz.func19,Tryz.ntmps19
  go_upto_region 12 with (first
   | (go_at_call 63;refine (IN.out _).mono ?_;rintro e w1 ⟨rfl,rfl⟩)
   | (go_at_call 64;(with_reducible refine OL.out.mono ?_);rintro en w1 ⟨r,b1,c1,rfl,hlq,ht⟩;have HL:=Lib.hid hlq;have HT:=Lib.hid ht;clear hlq ht)
   | (go_at_call 65;(with_reducible refine (PGB.out _ _ _ _ HL.out).mono ?_);rintro en w2 ⟨rfl,rfl⟩))
  obtain ⟨k5,q5,t5⟩:=MD.out _ _ _ _ HL.out
  have Q5:=Lib.hid q5
  have T5:=Lib.hid (HT.out.trans t5)
  clear q5 t5
  go_wp2_with (first
   | (go_at_call 68;(with_reducible refine (RD.out _ _ _ _ (HL.out.below ((Below.refl _ _).alloc (Nat.le_refl _) _))).mono ?_);rintro en w6 ⟨rfl,hb6⟩;have HB6:=Lib.hid hb6;clear hb6)
   | (go_at_call 69;(with_reducible refine (OP.out _).mono ?_);rintro en w7 ⟨A7,c7,rfl,hb7⟩;have HB7:=Lib.hid (bel_step HB6.out hb7 HB6.out.size)))
  go_ret2
  exact ⟨_,_,_,rfl,Q5.out.below HB7.out,T5.out.trans (Turn.below _ HB7.out),rfl⟩
set_option maxHeartbeats 400000 in
theorem ref_OpenPool_no (rd:Nat) (most:Int) (hm:¬ (8≤most∧most≤64)) (w:World) :
 Calls Tryz.prog 19 #[.pointer (some ⟨rd,0,none⟩),.int .i64 most] w fun e w'=>e = .returned (.tuple #[.pointer none,.int .i64 1])∧w=w':=by
 have IN:=Lib.hid (fun w1=>ref_inB most 8 64 w1)
 rw [inB_no hm] at IN
 clear hm
 go_enter Tryz.func19,Tryz.ntmps19
 go_wp2_with (go_at_call 63;refine (IN.out _).mono ?_;rintro e w1 ⟨rfl,rfl⟩)
 go_ret2
 exact ⟨rfl,rfl⟩
def numsF (F:List Pf):List Int:=F.map fun f=>(f.n:Int)
set_option maxRecDepth 100000 in
set_option maxHeartbeats 3200000 in
theorem ref_Numbers (rd r q:Nat) (x:Qx) (P:Pl) (w:World) (h:QM w rd r q x P) (hl:P.ring.length≤64) :
 Calls Tryz.prog 92 #[.pointer (some ⟨q,0,none⟩)] w fun e w'=>∃ A c,e = .returned (.slice A P.ring.length c)∧IS w' A P.ring.length (numsF P.ring)∧Below w.heap.size w w':=by
 obtain ⟨A,k,x2,_,hF,_⟩:=h.frames
 have xz:=h.head.2.1
 have HFS:=Lib.hid hF
 obtain ⟨i1,hi1,hz3,hz4,hz5⟩:=info_parts infoInt
 clear h hF
 go_enter Tryz.func92,Tryz.ntmps92
 go_wp2_with fail
 go_loopw [3,11] (fun v3 v11 wr=>∃ j:Nat,j≤P.ring.length∧v11 = .int .i64 j∧wr.ownsRow w.heap.size 3 1 v3 j (intVs (numsF (P.ring.take j)))∧Below w.heap.size w wr) (fun _ v11 _=>P.ring.length-(intOf v11).toNat)
 case atStart=>exact ⟨0,Nat.zero_le _,rfl,World.ownsRow_nil _ _ _ _,Below.refl _ _⟩
 case round =>
  obtain ⟨j,hj,rfl,ho,hb⟩:=hrel
  have HRO:=Lib.hid ho
  have HB:=Lib.hid hb
  clear ho hb
  by_cases hj2:j<P.ring.length
  ·obtain ⟨f,hf⟩:∃ f,P.ring[j]? = some f:=⟨_,List.getElem?_eq_getElem hj2⟩
   obtain ⟨g,rfl,hg,_,hcc⟩:=HFS.out.2 (by omega)
   obtain ⟨a0,a1,a2,a3⟩:=hcc j f hf
   obtain ⟨wcl,wfl⟩:=bcell HB.out
   have d0:=(wcl g (j*4) hg).trans a0
   have d1:=(wcl g (j*4+1) hg).trans a1
   have d2:=(wcl g (j*4+2) hg).trans a2
   have d3:=(wcl g (j*4+3) hg).trans a3
   have R:=Lib.hid (show intVs (numsF (P.ring.take (j+1)))=intVs (numsF (P.ring.take j))++[.int .i64 f.n] by
    rw [List.take_add_one,hf];simp [intVs,numsF])
   have G1:=Lib.hid (show j+1≤maxLen by unfold maxLen;omega)
   have G2:=Lib.hid (show (j+1)*8≤140737488355328 by omega)
   clear hcc a0 a1 a2 a3 wcl wfl hf
   go_wp2_with (at_builtin;(go_loud (refine wpList_append_src _ rfl (.tmp 15) (.tmp 18) 43 43 rfl w.heap.size 3 i1 _ 1 8 Tryz.underlying43 hi1 hz3 hz4 hz5 zeroCellsInt (by decide) _ j _ rfl ((HRO.out.alloc _).alloc _) (.slice (some ⟨_,0,none⟩) 1 1) 1 [.int .i64 f.n] rfl (Src.ofSlice _ Tryz.underlying43 ⟨_,0,none⟩ 1 1 [.int .i64 f.n] rfl (World.news_of_block (heap_alloc_new2 _ _ _)) (by simp [Value.oneCell'])) G1.out G2.out (Nat.le_trans HB.out.size (by simp;omega)) ?_));intro v1 w6 hown1 hg1 _ hat1;have HO6:=Lib.hid hown1;have HB6:=Lib.hid ((((HB.out.alloc HB.out.size _).alloc (Nat.le_trans HB.out.size (by simp)) _).grown hg1 (Nat.le_trans HB.out.size (by simp;omega)) (fun k hk=>(HRO.out.lt k hk).1)));clear hown1 hg1 hat1)
   go_roundw
   case rel=>exact ⟨j+1,by omega,by simp,by rw [R.out];exact HO6.out,HB6.out⟩
   case measure=>simp [intOf];omega
  ·obtain rfl:j=P.ring.length:=by omega
   rw [List.take_length] at HRO
   obtain ⟨A6,c6,hv,hc6,hIS,_⟩:=IS.of_own HRO.out
   subst hv
   go_wp2_with fail
   go_ret
   exact ⟨A6,c6,rfl,hIS,HB.out⟩
end Go.Proofs.YtjihboddejaelaaGreat
namespace Go.Proofs.YtjihboddejaelaaGreat
open Go.RowKit
open Go.BigFrame
set_option maxRecDepth 100000 in
set_option maxHeartbeats 6400000 in
theorem pool_Pin (b:List (Option Nat)) (gd g m1 m2 p e h t:Nat) (A:List Nat) (P:Pl) (x:Int) (hx:in64' x) (w:World) (H:PM w b gd g m1 m2 p e h t A P) (ok:P.ok) (fit:Fit P.L.D 1) (hp:∀ f∈(P.get x).1.ring,f.pins≤1000000) :
 Calls Tryz.prog 75 #[.pointer (some ⟨p,0,none⟩),.int .i64 x] w (RoomPost (allB b g m1 m2 p e h t A) w gd g p e h t (P.pin x).1 (P.pin x).2):=by
 have GT:=Lib.hid (pool_get b gd g m1 m2 p e h t A P x hx w H ok fit)
 by_cases hE0:(P.get x).2=0
 ·obtain ⟨F0,f,hF,hfx,i0,i1⟩:=get_last ok hE0
  have HE:=Lib.hid (pin_eq hE0 hF)
  have hpf:=hp f (by rw [hF];simp)
  obtain ⟨Q,hQ⟩:∃ Q,(P.get x).1=Q:=⟨_,rfl⟩
  rw [hQ] at hF
  rw [hQ,hE0] at GT
  rw [hQ] at HE
  have HF:=Lib.hid hF
  have G0:=Lib.hid (GT.out.mono fun en w' hg=>get_got HF.out hg)
  have wp1:wrap64 ((f.pins:Int)+1)=((f.pins+1:Nat):Int):=by rw [IntWalk.wrap64_in _ (by omega)];omega
  clear H ok fit hE0 hF hQ i0 i1 GT hfx hp hpf
  go_enter Tryz.func75,Tryz.ntmps75
  go_wp2_with (go_at_call 97;refine G0.out.mono ?_;rintro en w1 ⟨b1,n1,n2,A0,a,hpm,ht,rfl,hl,xa,ya,hat⟩;have HL:=Lib.hid hl;have HM:=Lib.hid hpm;have HT:=Lib.hid ht;clear hl ht;have a2:w1.cell? ⟨a,2,none⟩=some (.int .i64 f.pins):=hat.cell 2;have af:=hat.frozen;clear hpm hat)
  go_ret
  rw [HE.out,wp1]
  obtain ⟨s1,t1⟩:=HM.out.frame (f':={ f with pins:=f.pins+1 }) (A2:=[]) (F2:=[]) HF.out HL.out 2 (.int .i64 ((f.pins+1:Nat):Int)) rfl (fun x y=>rfl)
  exact ⟨rfl,b1,n1,n2,_,s1,HT.out.trans t1⟩
 ·have HE:Hid (P.pin x=P.get x):=if_neg hE0
  rw [HE.out]
  obtain ⟨Q,hQ⟩:∃ Q,(P.get x).1=Q:=⟨_,rfl⟩
  obtain ⟨E,hE⟩:∃ E,(P.get x).2=E:=⟨_,rfl⟩
  rw [hQ,hE] at GT
  rw [hQ,hE]
  rw [hE] at hE0
  have G0:=Lib.hid (GT.out.mono fun en w' hg=>get_miss hE0 hg)
  clear H ok fit hQ hE GT hp
  go_enter Tryz.func75,Tryz.ntmps75
  go_wp2_with (go_at_call 97;refine G0.out.mono ?_;rintro en w1 ⟨b1,n1,n2,A1,hpm,ht,rfl⟩)
  go_ret
  exact ⟨rfl,b1,n1,n2,_,hpm,ht⟩
set_option maxRecDepth 100000 in
set_option maxHeartbeats 6400000 in
theorem pool_Unpin (b:List (Option Nat)) (gd g m1 m2 p e h t:Nat) (A:List Nat) (P:Pl) (x:Int) (hx:in64' x) (w:World) (H:PM w b gd g m1 m2 p e h t A P) (ok:P.ok) (hp:∀ f∈P.ring,f.pins≤1000000) :
 Calls Tryz.prog 77 #[.pointer (some ⟨p,0,none⟩),.int .i64 x] w (RoomPost (allB b g m1 m2 p e h t A) w gd g p e h t (P.unpin x).1 (P.unpin x).2):=by
 have HP:=Lib.hid H
 have WN:=Lib.hid (wfI hx.1 hx.2)
 have HM:=Lib.hid H.held
 have x3:w.cell? ⟨p,3,none⟩=some (.map (some h)):=H.has.cell 3
 cases hfd:findN x P.ring with
 | none =>
   have hne:=find_none hfd
   have HK:Hid (ptrO (heldOf A P.ring x) = .pointer none):=by rw [heldOf_none hne];rfl
   have HE:Hid (P.unpin x=(P,11)):=by unfold Pl.unpin;rw [hfd];exact Lib.hid rfl
   rw [HE.out]
   clear H ok hp hfd hne
   go_enter Tryz.func77,Tryz.ntmps77
   go_wp2_with (at_lookup;refine wpList_lookup_fr _ rfl _ _ rfl h _ (heldOf A P.ring) rfl HM.out x rfl WN.out ?_;rw [HK.out])
   go_ret
   exact ⟨rfl,b,m1,m2,A,HP.out,Turn.refl _ _⟩
 | some f =>
   obtain ⟨F1,F2,hF,hfx,hne⟩:=find_split hfd
   have al:=H.ring.len
   obtain ⟨A1,a,A2,hA,hl⟩:∃ A1 a A2,A=A1++a :: A2∧A1.length=F1.length:=by
    have hk:F1.length<A.length:=by rw [al,hF];simp
    exact ⟨A.take F1.length,A[F1.length],A.drop (F1.length+1),split_at hk,by rw [List.length_take];omega⟩
   subst hA
   have nm:=ok.names
   have HK:Hid (ptrO (heldOf (A1++a :: A2) P.ring x)=ptrB a):=by
    rw [← hfx,hF,heldOf_at (by rw [← hF];exact nm) hl];rfl
   have hr:=HP.out.ring
   rw [hF] at hr
   have hat:=hr.at hl
   have a2:w.cell? ⟨a,2,none⟩=some (.int .i64 f.pins):=hat.cell 2
   have af:=hat.frozen
   have hpf:=hp f (by rw [hF];simp)
   by_cases hp0:f.pins=0
   ·have HE:Hid (P.unpin x=(P,11)):=by unfold Pl.unpin;rw [hfd];exact Lib.hid (if_pos hp0)
    rw [HE.out]
    rw [hp0] at a2
    have a2:w.cell? ⟨a,2,none⟩=some (.int .i64 0):=a2
    clear H ok hp hfd hne hF hfx nm hr hat al hl hp0 hpf
    go_enter Tryz.func77,Tryz.ntmps77
    go_wp2_with (at_lookup;refine wpList_lookup_fr _ rfl _ _ rfl h _ (heldOf (A1++a :: A2) P.ring) rfl HM.out x rfl WN.out ?_;rw [HK.out])
    go_ret
    exact ⟨rfl,b,m1,m2,_,HP.out,Turn.refl _ _⟩
   ·have hu:unpinN f.n P.ring=F1++{ f with pins:=f.pins-1 } :: F2:=by
     have h1:P.ring[F1.length]? = some f:=by rw [hF];simp
     rw [unpin_set nm h1,hF];simp
    have HE:Hid (P.unpin x=({ P with ring:=F1++{ f with pins:=f.pins-1 } :: F2 },0)):=by
     unfold Pl.unpin;rw [hfd]
     show (if f.pins=0 then (P,11) else ({ P with ring:=unpinN f.n P.ring },0))=_
     rw [if_neg hp0,hu]
    have FR:=Lib.hid (H.frame (f':={ f with pins:=f.pins-1 }) hF hl 2 (.int .i64 ((f.pins-1:Nat):Int)) rfl (fun x y=>rfl))
    have g0:((f.pins:Int) == 0)=false:=by rw [beq_eq_false_iff_ne];omega
    have wp1:wrap64 ((f.pins:Int)-1)=((f.pins-1:Nat):Int):=by rw [IntWalk.wrap64_in _ (by omega)];omega
    rw [HE.out]
    clear H ok hp hfd hne hF hfx nm hr hat al hl hp0 hpf hu
    go_enter Tryz.func77,Tryz.ntmps77
    go_wp2_with (at_lookup;refine wpList_lookup_fr _ rfl _ _ rfl h _ (heldOf (A1++a :: A2) P.ring) rfl HM.out x rfl WN.out ?_;rw [HK.out])
    go_ret
    rw [wp1]
    exact ⟨rfl,b,m1,m2,_,FR.out.1,FR.out.2⟩
set_option maxRecDepth 100000 in
set_option maxHeartbeats 6400000 in
theorem pool_Held (b:List (Option Nat)) (gd g m1 m2 p e h t:Nat) (A:List Nat) (P:Pl) (w:World) (H:PM w b gd g m1 m2 p e h t A P) (hl64:P.ring.length≤64) :
 Calls Tryz.prog 90 #[.pointer (some ⟨p,0,none⟩)] w fun en w'=>∃ B c,en = .returned (.slice B P.ring.length c)∧w'.ownsRow w.heap.size 3 1 (.slice B P.ring.length c) P.ring.length (intVs (numsF P.ring))∧Below w.heap.size w w':=by
 have HP:=Lib.hid H
 have AL:=Lib.hid H.ring.len
 have x2:w.cell? ⟨p,2,none⟩=some (ptrB e):=H.has.cell 2
 have xz:=H.has.lt
 obtain ⟨q0,hq0⟩:∃ q0,A.headD e=q0:=⟨_,rfl⟩
 have e5:w.cell? ⟨e,5,none⟩=some (ptrB q0):=by
  rw [← hq0]
  exact H.ring.ends.cell 5
 have HQ0:Hid ((A.drop 0).headD e=q0):=Lib.hid hq0
 have ND:=Lib.hid H.ring.nodup
 obtain ⟨i1,hi1,hz3,hz4,hz5⟩:=info_parts infoInt
 have LA:A.length≤64:=by rw [AL.out];exact hl64
 clear H hq0
 go_enter Tryz.func90,Tryz.ntmps90
 go_wp2_with fail
 go_loopw [3,4] (fun v3 v4 wr=>∃ k y:Nat,k≤A.length∧v4=ptrB y∧Hid ((A.drop k).headD e=y)∧wr.ownsRow w.heap.size 3 1 v3 k (intVs (numsF (P.ring.take k)))∧Below w.heap.size w wr) (fun _ v4 _=>A.length-A.idxOf (blockOf v4))
 case atStart=>exact ⟨0,q0,Nat.zero_le _,rfl,HQ0.out,World.ownsRow_nil _ _ _ _,Below.refl _ _⟩
 case round =>
  obtain ⟨k,y,hk,rfl,HY,ho,hb⟩:=hrel
  have HRO:=Lib.hid ho
  have HB:=Lib.hid hb
  have HD:=Lib.hid (HP.out.below hb)
  have y2:wr.cell? ⟨p,2,none⟩=some (ptrB e):=HD.out.has.cell 2
  have yz:=HD.out.has.lt
  clear ho hb x2 xz e5 HQ0
  by_cases h1:k<A.length
  ·have hkF:k<P.ring.length:=by have:=AL.out;omega
   obtain ⟨F1,f,F2,hF,hlF⟩:∃ F1 f F2,P.ring=F1++f :: F2∧F1.length=k:=⟨P.ring.take k,P.ring[k],P.ring.drop (k+1),split_atF hkF,by rw [List.length_take];omega⟩
   obtain ⟨A1,a,A2,hA,hlA⟩:∃ A1 a A2,A=A1++a :: A2∧A1.length=k:=⟨A.take k,A[k],A.drop (k+1),split_at h1,by rw [List.length_take];omega⟩
   subst hA
   have hl:A1.length=F1.length:=hlA.trans hlF.symm
   have hd:((A1++a :: A2).drop k).headD e=a:=by rw [← hlA,List.drop_left];rfl
   obtain rfl:a=y:=hd.symm.trans HY.out
   have hr:=HD.out.ring
   rw [hF] at hr
   have hat:=hr.at hl
   have hae:¬ a=e:=fun x=>(List.nodup_cons.1 hr.nodup).1 (x ▸ List.mem_append_right _ (List.mem_cons_self ..))
   have a0:wr.cell? ⟨a,0,none⟩=some (.int .i64 f.n):=hat.cell 0
   obtain ⟨nx,hnx⟩:∃ nx,A2.headD e=nx:=⟨_,rfl⟩
   have a5:wr.cell? ⟨a,5,none⟩=some (ptrB nx):=by rw [← hnx];exact hat.cell 5
   have az:=hat.lt
   have HNX:=Lib.hid hnx
   have hneq:=neq_fr (w:=wr) hat HD.out.ring.ends hae
   have R:=Lib.hid (show intVs (numsF (P.ring.take (k+1)))=intVs (numsF (P.ring.take k))++[.int .i64 f.n] by
    have:P.ring[k]? = some f:=by rw [hF,← hlF];simp
    rw [List.take_add_one,this];simp [intVs,numsF])
   have G1:=Lib.hid (show k+1≤maxLen by unfold maxLen;omega)
   have G2:=Lib.hid (show (k+1)*8≤140737488355328 by omega)
   have HLA:=Lib.hid hlA
   clear hF hl hd hr hat hkF h1 hlF hlA hnx hae HY
   go_wp2_with (at_builtin;(go_loud (refine wpList_append_src _ rfl (.tmp 22) (.tmp 27) 43 43 rfl w.heap.size 3 i1 _ 1 8 Tryz.underlying43 hi1 hz3 hz4 hz5 zeroCellsInt (by decide) _ k _ rfl (HRO.out.alloc _) (.slice (some ⟨_,0,none⟩) 1 1) 1 [.int .i64 f.n] rfl (Src.ofSlice _ Tryz.underlying43 ⟨_,0,none⟩ 1 1 [.int .i64 f.n] rfl (World.news_of_block (heap_alloc_new _ _)) (by simp [Value.oneCell'])) G1.out G2.out (Nat.le_trans HB.out.size (by simp)) ?_));intro v1 w6 hown1 hg1 _ hat1;have HO6:=Lib.hid hown1;have HB6:=Lib.hid ((HB.out.alloc HB.out.size (.cells #[.int .i64 f.n] 3)).grown hg1 (Nat.le_trans HB.out.size (by simp)) (fun k hk=>(HRO.out.lt k hk).1));have b5:w6.cell? ⟨a,5,none⟩=some (ptrB nx):=(World.cell?_of_block (hg1.block a (Nat.lt_of_lt_of_le az (by simp)) (fun h2=>by have:=(HRO.out.lt a h2.symm).1;have:=HP.out.ring.lt a (List.mem_cons_of_mem _ (List.mem_append_right _ (List.mem_cons_self ..)));omega))).trans ((World.cell?_of_block (Below.heap_alloc wr _ a az)).trans a5);have bz:a<w6.heap.size:=Nat.lt_of_lt_of_le az (Nat.le_trans (by simp) hg1.size);clear hown1 hg1 hat1)
   go_roundw
   case rel =>
    refine ⟨k+1,nx, ?_,rfl, ?_,by rw [R.out];exact HO6.out,HB6.out⟩
    ·rw [List.length_append,List.length_cons,← HLA.out];omega
    ·show ((A1++a :: A2).drop (k+1)).headD e=nx
     rw [← HLA.out,show (A1++a :: A2).drop (A1.length+1)=A2 by rw [List.drop_append];simp]
     exact HNX.out
   case measure =>
    show (A1++a :: A2).length-(A1++a :: A2).idxOf nx<(A1++a :: A2).length-(A1++a :: A2).idxOf a
    rw [← HNX.out]
    exact idx_next ND.out
  ·have hk2:k=A.length:=by omega
   subst hk2
   obtain rfl:e=y:=(head_end A e).symm.trans HY.out
   have hneq:=neq_fr_same wr e
   rw [List.take_of_length_le (by rw [AL.out];exact Nat.le_refl _),AL.out] at HRO
   obtain ⟨B,c,hv⟩:=own_slice HRO.out
   subst hv
   go_wp2_with fail
   go_ret
   exact ⟨B,c,rfl,HRO.out,HB.out⟩
set_option maxRecDepth 100000 in
set_option maxHeartbeats 1600000 in
theorem pool_Checkpoint (b:List (Option Nat)) (gd g m1 m2 p e h t:Nat) (A:List Nat) (P:Pl) (w:World) (H:PM w b gd g m1 m2 p e h t A P) (ok:P.L.ok) (hd:P.L.D.down=false) (fit:Fit P.L.D 70000) :
 Calls Tryz.prog 85 #[.pointer (some ⟨p,0,none⟩)] w (RoomPost (allB b g m1 m2 p e h t A) w gd g p e h t P.check.1 P.check.2):=by
 have HP:=Lib.hid H
 have x6:w.cell? ⟨p,6,none⟩=some (.map (some t)):=H.has.cell 6
 have x0:w.cell? ⟨p,0,none⟩=some (ptrB g):=H.has.cell 0
 have xz:=H.has.lt
 have CK:=Lib.hid (pm_Checkpoint H ok hd fit)
 by_cases hT:P.turned=[]
 ·have hlen:∀ ty,(Builtin.len_ #[104] ty #[.map (some t)]).run Tryz.prog w = .ok (.int .i64 0) w:=fun ty=>by
   have:=H.turned.len Tryz.underlying104 3
   rw [hT] at this;exact this
  have HE:Hid (P.check=({ P with L:=P.L.checkpoint.1 },P.L.checkpoint.2)):=if_pos hT
  rw [HE.out]
  clear H ok hd fit hT
  go_enter Tryz.func85,Tryz.ntmps85
  go_wp2_with (go_at_call 99;refine CK.out.mono ?_;rintro en w5 ⟨rfl,b5,n5,n6,hpm5,ht5⟩)
  go_ret
  exact ⟨rfl,b5,n5,n6,A,hpm5,ht5⟩
 ·have hlen:=H.turned.len Tryz.underlying104
  have g0:(0:Int)<(P.turned.length:Int):=by
   have:¬ P.turned.length=0:=fun h2=>hT (List.eq_nil_of_length_eq_zero h2)
   omega
  have HE:Hid (P.check=(P,11)):=if_neg hT
  rw [HE.out]
  clear H ok hd fit hT CK
  go_enter Tryz.func85,Tryz.ntmps85
  go_wp2_with fail
  go_ret
  exact ⟨rfl,b,m1,m2,A,HP.out,Turn.refl _ _⟩
set_option maxHeartbeats 1600000 in
theorem pool_Frames (b:List (Option Nat)) (gd g m1 m2 p e h t:Nat) (A:List Nat) (P:Pl) (w:World) (H:PM w b gd g m1 m2 p e h t A P) :
 Calls Tryz.prog 28 #[.pointer (some ⟨p,0,none⟩)] w fun e w'=>e = .returned (.int .i64 P.L.fs.length)∧w=w':=by
 have x0:w.cell? ⟨p,0,none⟩=some (ptrB g):=H.has.cell 0
 have FR:=Lib.hid (wal_Frames b gd g m1 m2 P.L.rw w H.log)
 clear H
 go_enter Tryz.func28,Tryz.ntmps28
 go_wp2_with (go_at_call 89;refine FR.out.mono ?_;rintro en w1 ⟨rfl,rfl⟩)
 go_ret
 exact ⟨rfl,rfl⟩
set_option maxHeartbeats 1600000 in
theorem pool_Stat (b:List (Option Nat)) (gd g m1 m2 p e h t:Nat) (A:List Nat) (P:Pl) (w:World) (H:PM w b gd g m1 m2 p e h t A P) :
 Calls Tryz.prog 29 #[.pointer (some ⟨p,0,none⟩)] w fun e w'=>e = .returned (.agg #[.int .i64 P.hits,.int .i64 P.misses,.int .i64 P.spills])∧Below w.heap.size w w':=by
 have x7:w.cell? ⟨p,7,none⟩=some (.int .i64 P.hits):=H.has.cell 7
 have x8:w.cell? ⟨p,8,none⟩=some (.int .i64 P.misses):=H.has.cell 8
 have x9:w.cell? ⟨p,9,none⟩=some (.int .i64 P.spills):=H.has.cell 9
 have xz:=H.has.lt
 clear H
 go_enter Tryz.func29,Tryz.ntmps29
 go_wp2_with fail
 (try simp only [Exit.inBlock,Exit.then])
 refine bodyPost_ret (results_cell_row rfl _ _ w.heap.size 69 _ (0,0) _ rfl (heap_alloc_new w _) Tryz.underlying69 rfl (by kernel_rfl)) rfl ?_
 exact ⟨rfl,(Below.refl _ _).alloc (Nat.le_refl _) _⟩
end Go.Proofs.YtjihboddejaelaaGreat
namespace Go.Proofs.YtjihboddejaelaaGreat
open Go.RowKit
open Go.BigFrame
structure Bz where
 b:List (Option Nat)
 g:Nat
 m1:Nat
 m2:Nat
 e:Nat
 h:Nat
 t:Nat
 A:List Nat
def Bz.all (x:Bz) (p:Nat):List (Option Nat):=allB x.b x.g x.m1 x.m2 p x.e x.h x.t x.A
def Bz.pm (x:Bz) (w:World) (gd p:Nat) (P:Pl):Prop:=PM w x.b gd x.g x.m1 x.m2 p x.e x.h x.t x.A P
structure PQ (w0 w:World) (gd p:Nat) (x:Bz) (rd r q:Nat) (y:Qx) (P Q:Pl):Prop where
 pm:x.pm w gd p P
 qm:QM w rd r q y Q
 disj:Disj (x.all p) y.all
 low1:∀ k,some k∈x.all p→w0.heap.size≤k
 low2:∀ k,some k∈y.all→w0.heap.size≤k
 bel:Below w0.heap.size w0 w
structure PQA (w0 w:World) (gd p:Nat) (x:Bz) (rd r q:Nat) (y:Qx) (ab ac:Nat) (a:ActV) (P Q:Pl):Prop where
 pq:PQ w0 w gd p x rd r q y P Q
 act:Has w ab 61 a.arr
 off1:some ab∉x.all p
 off2:some ab∉y.all
 act2:Has w ac 61 a.arr
 off3:some ac∉x.all p
 off4:some ac∉y.all
section
variable {w0 w w':World} {gd p p' rd r r' q q' ab ac:Nat} {x x':Bz} {y y':Qx} {a:ActV} {P P' Q Q':Pl}
theorem Bz.pm.lt (h:x.pm w gd p P) {k:Nat} (hk:some k∈x.all p):k<w.heap.size:=PM.lt h k hk
theorem PQ.step (h:PQ w0 w gd p x rd r q y P Q) (hb:Below w.heap.size w w'):PQ w0 w' gd p x rd r q y P Q :=
 ⟨PM.below h.pm hb,h.qm.below hb,h.disj,h.low1,h.low2,bel_step h.bel hb h.bel.size⟩
theorem PQ.onP (h:PQ w0 w gd p x rd r q y P Q) (hp:x'.pm w' gd p' P') (ht:Turn (x.all p) (x'.all p') w w'):PQ w0 w' gd p' x' rd r q y P' Q :=
 ⟨hp,h.qm.far ht h.disj,disj_turn h.disj ht (fun k hk=>h.qm.lt hk),ht.low h.low1 h.bel.size,h.low2,ht.bel h.bel h.low1 h.bel.size⟩
theorem PQ.onQ (h:PQ w0 w gd p x rd r q y P Q) (hq:QM w' rd r' q' y' Q') (ht:Turn y.all y'.all w w'):PQ w0 w' gd p x rd r' q' y' P Q' :=
 ⟨PM.far h.pm ht h.disj.symm,hq,(disj_turn h.disj.symm ht (fun k hk=>h.pm.lt hk)).symm,h.low1,ht.low h.low2 h.bel.size,ht.bel h.bel h.low2 h.bel.size⟩
theorem PQ.two (h:PQ w0 w gd p x rd r q y P Q):Two w0 w gd rd x.b y.b P.L.D Q.L.D:=by
 have i1:∀ k,some k∈x.b→some k∈x.all p:=fun k hk=>List.mem_append_left _ (List.mem_append_left _ hk)
 have i2:∀ k,some k∈y.b→some k∈y.all:=fun k hk=>List.mem_append_left _ (List.mem_append_left _ hk)
 exact ⟨PM.log h.pm |>.disk,h.qm.log.disk,fun k hk h2=>h.disj k (i1 k hk) (i2 k h2),fun k hk=>h.low1 k (i1 k hk),fun k hk=>h.low2 k (i2 k hk),h.bel⟩
theorem PQA.step (h:PQA w0 w gd p x rd r q y ab ac a P Q) (hb:Below w.heap.size w w'):PQA w0 w' gd p x rd r q y ab ac a P Q :=
 ⟨h.pq.step hb,h.act.belowS hb,h.off1,h.off2,h.act2.belowS hb,h.off3,h.off4⟩
theorem PQA.onP (h:PQA w0 w gd p x rd r q y ab ac a P Q) (hp:x'.pm w' gd p' P') (ht:Turn (x.all p) (x'.all p') w w'):PQA w0 w' gd p' x' rd r q y ab ac a P' Q :=
 ⟨h.pq.onP hp ht,h.act.turn ht h.off1,ht.not h.act.lt h.off1,h.off2,h.act2.turn ht h.off3,ht.not h.act2.lt h.off3,h.off4⟩
theorem PQA.onQ (h:PQA w0 w gd p x rd r q y ab ac a P Q) (hq:QM w' rd r' q' y' Q') (ht:Turn y.all y'.all w w'):PQA w0 w' gd p x rd r' q' y' ab ac a P Q' :=
 ⟨h.pq.onQ hq ht,h.act.turn ht h.off2,h.off1,ht.not h.act.lt h.off2,h.act2.turn ht h.off4,h.off3,ht.not h.act2.lt h.off4⟩
theorem PQ.act (h:PQ w0 w gd p x rd r q y P Q) (a:ActV):PQA w0 (w.alloc (.cells a.arr 61)) gd p x rd r q y w.heap.size w.heap.size a P Q:=by
 have hb:=(Below.refl w.heap.size w).alloc (Nat.le_refl _) (.cells a.arr 61)
 have o1:some w.heap.size∉x.all p:=fun h2=>by have:=h.pm.lt h2;omega
 have o2:some w.heap.size∉y.all:=fun h2=>by have:=h.qm.lt h2;omega
 exact ⟨h.step hb,Has.new _ _ _,o1,o2,Has.new _ _ _,o1,o2⟩
theorem PQA.act3 (h:PQA w0 w gd p x rd r q y ab ac a P Q):PQA w0 (w.alloc (.cells a.arr 61)) gd p x rd r q y w.heap.size ac a P Q:=by
 have hb:=(Below.refl w.heap.size w).alloc (Nat.le_refl _) (.cells a.arr 61)
 obtain ⟨h1,h2,h3,h4,h5,h6,h7⟩:=h.pq.act a
 exact ⟨h1,h2,h3,h4,h.act2.belowS hb,h.off3,h.off4⟩
theorem PQA.outer (h:PQA w0 w gd p x rd r q y ab ac a P Q):PQA w0 w gd p x rd r q y ac ac a P Q:=⟨h.pq,h.act2,h.off3,h.off4,h.act2,h.off3,h.off4⟩
def PPq (w0:World) (gd p rd r q:Nat) (y:Qx) (ab ac:Nat) (a:ActV) (P' Q:Pl) (v:Value) (e:Ending) (w':World):Prop:=e = .returned v∧∃ x',PQA w0 w' gd p x' rd r q y ab ac a P' Q
def QPq (w0:World) (gd p:Nat) (x:Bz) (rd r q n0 ab ac:Nat) (a:ActV) (P Q':Pl) (v:Value) (e:Ending) (w':World):Prop:=e = .returned v∧∃ y',PQA w0 w' gd p x rd r q y' ab ac a P Q'∧y'.T.length≤n0
theorem PQA.ofRoom (h:PQA w0 w gd p x rd r q y ab ac a P Q) {E:Int} {en:Ending} (hp:RoomPost (x.all p) w gd x.g p x.e x.h x.t P' E en w'):PPq w0 gd p rd r q y ab ac a P' Q (.int .i64 E) en w':=by
 obtain ⟨he,b',n1,n2,A',h1,h2⟩:=hp
 exact ⟨he,⟨b',x.g,n1,n2,x.e,x.h,x.t,A'⟩,h.onP h1 h2⟩
theorem PQA.ofRoll (h:PQA w0 w gd p x rd r q y ab ac a P Q) {E:Int} {en:Ending} (hp:RollPost (x.all p) w gd x.g p x.e x.h P' E en w'):PPq w0 gd p rd r q y ab ac a P' Q (.int .i64 E) en w':=by
 obtain ⟨he,b',n1,n2,t',A',h1,h2⟩:=hp
 exact ⟨he,⟨b',x.g,n1,n2,x.e,x.h,t',A'⟩,h.onP h1 h2⟩
theorem PQA.ofQ (h:PQA w0 w gd p x rd r q y ab ac a P Q) {j:Nat} {v:Value} {en:Ending} (hp:QPost2 w rd r q y j Q' v en w'):QPq w0 gd p x rd r q (y.T.length+j) ab ac a P Q' v en w':=by
 obtain ⟨he,y',h1,h2,h3⟩:=hp
 exact ⟨he,y',h.onQ h1 h2,h3⟩
end
section
variable {w0 w:World} {gd p rd r q ab ac:Nat} {x:Bz} {y:Qx} {a:ActV} {P Q:Pl} {W k cw cc:Nat}
theorem Live.fit (h:Live P W k cw cc) (hw:cw≤900000000) (hc:cc≤3000000000000000000):Fit P.L.D 80000:=by
 obtain ⟨B,N,fB,a,b,d⟩:=h.book
 exact ⟨a.ok.log.disk,by have:=h.count;omega,by have:=h.waits;omega⟩
theorem Live.ok (h:Live P W k cw cc):P.ok:=by
 obtain ⟨B,N,fB,a,b,d⟩:=h.book
 exact a.ok
theorem live_len (h:Live P W k cw cc) (hW:W≤40000):P.L.fs.length≤40000:=by have:=h.wt;have:P.L.fs.length≤wt P:=fs_wt;omega
theorem Live.getPins (h:Live P W k cw cc) (hk:k≤1000000) (n:Int):∀ f∈(P.get n).1.ring,f.pins≤1000000:=fun f hf=>Nat.le_trans ((get_go P n).pins k h.pins f hf) hk
theorem pq_Read (h:PQA w0 w gd p x rd r q y ab ac a P Q) (hl:Live P W k cw cc) (hw:cw≤900000000) (hc:cc≤3000000000000000000) (n:Int) (hn:in64' n) :
 Calls Tryz.prog 70 #[.pointer (some ⟨p,0,none⟩),.int .i64 n] w (PPq w0 gd p rd r q y ab ac a (P.get n).1 Q (.tuple #[.string (P.text n),.int .i64 (P.get n).2])) :=
 (pool_Read x.b gd x.g x.m1 x.m2 p x.e x.h x.t x.A P n hn w h.pq.pm hl.ok ((hl.fit hw hc).less (by omega))).mono fun en w' hp=>by
   obtain ⟨he,b',n1,n2,A',h1,h2⟩:=hp
   exact ⟨he,⟨b',x.g,n1,n2,x.e,x.h,x.t,A'⟩,h.onP h1 h2⟩
theorem qq_Read (h:PQA w0 w gd p x rd r q y ab ac a P Q) (hl:Live Q W k cw cc) (hW:W≤40000) (hw:cw≤900000000) (hc:cc≤3000000000000000000) (n:Int) :
 Calls Tryz.prog 71 #[.pointer (some ⟨q,0,none⟩),.int .i64 n] w (QPq w0 gd p x rd r q (y.T.length+0) ab ac a P (Q.get n).1 (.tuple #[.string (Q.text n),.int .i64 (Q.get n).2])) :=
 (ref_PRead rd r q y Q n w h.pq.qm hl.ok hl.up ((hl.fit hw hc).less (by omega)) (by have:=live_len hl hW;omega)).mono fun en w' hp=>h.ofQ hp
theorem pq_Write (h:PQA w0 w gd p x rd r q y ab ac a P Q) (hl:Live P W k cw cc) (hw:cw≤900000000) (hc:cc≤3000000000000000000) (n:Int) (hn:in64' n) (s:ByteArray) :
 Calls Tryz.prog 72 #[.pointer (some ⟨p,0,none⟩),.int .i64 n,.string s] w (PPq w0 gd p rd r q y ab ac a (P.write n s).1 Q (.int .i64 (P.write n s).2)) :=
 (pool_Write x.b gd x.g x.m1 x.m2 p x.e x.h x.t x.A P n hn s w h.pq.pm hl.ok ((hl.fit hw hc).less (by omega))).mono fun en w' hp=>h.ofRoom hp
theorem qq_Write (h:PQA w0 w gd p x rd r q y ab ac a P Q) (hl:Live Q W k cw cc) (hW:W≤40000) (hw:cw≤900000000) (hc:cc≤3000000000000000000) (hT:y.T.length≤900000) (n:Int) (s:ByteArray) :
 Calls Tryz.prog 74 #[.pointer (some ⟨q,0,none⟩),.int .i64 n,.string s] w (QPq w0 gd p x rd r q (y.T.length+1) ab ac a P (Q.write n s).1 (.int .i64 (Q.write n s).2)) :=
 (ref_PWrite rd r q y Q n s w h.pq.qm hl.ok hl.up ((hl.fit hw hc).less (by omega)) (by have:=live_len hl hW;omega) (by omega)).mono fun en w' hp=>h.ofQ hp
theorem pq_Pin (h:PQA w0 w gd p x rd r q y ab ac a P Q) (hl:Live P W k cw cc) (hk:k≤1000000) (hw:cw≤900000000) (hc:cc≤3000000000000000000) (n:Int) (hn:in64' n) :
 Calls Tryz.prog 75 #[.pointer (some ⟨p,0,none⟩),.int .i64 n] w (PPq w0 gd p rd r q y ab ac a (P.pin n).1 Q (.int .i64 (P.pin n).2)) :=
 (pool_Pin x.b gd x.g x.m1 x.m2 p x.e x.h x.t x.A P n hn w h.pq.pm hl.ok ((hl.fit hw hc).less (by omega)) (hl.getPins hk n)).mono fun en w' hp=>h.ofRoom hp
theorem qq_Pin (h:PQA w0 w gd p x rd r q y ab ac a P Q) (hl:Live Q W k cw cc) (hk:k≤1000000) (hW:W≤40000) (hw:cw≤900000000) (hc:cc≤3000000000000000000) (n:Int) :
 Calls Tryz.prog 76 #[.pointer (some ⟨q,0,none⟩),.int .i64 n] w (QPq w0 gd p x rd r q (y.T.length+0) ab ac a P (Q.pin n).1 (.int .i64 (Q.pin n).2)) :=
 (ref_Pin rd r q y Q n w h.pq.qm hl.ok hl.up ((hl.fit hw hc).less (by omega)) (by have:=live_len hl hW;omega) (hl.getPins hk n)).mono fun en w' hp=>h.ofQ hp
theorem pq_Unpin (h:PQA w0 w gd p x rd r q y ab ac a P Q) (hl:Live P W k cw cc) (hk:k≤1000000) (n:Int) (hn:in64' n) :
 Calls Tryz.prog 77 #[.pointer (some ⟨p,0,none⟩),.int .i64 n] w (PPq w0 gd p rd r q y ab ac a (P.unpin n).1 Q (.int .i64 (P.unpin n).2)) :=
 (pool_Unpin x.b gd x.g x.m1 x.m2 p x.e x.h x.t x.A P n hn w h.pq.pm hl.ok (fun f hf=>Nat.le_trans (hl.pins f hf) hk)).mono fun en w' hp=>h.ofRoom hp
theorem qq_Unpin (h:PQA w0 w gd p x rd r q y ab ac a P Q) (hl:Live Q W k cw cc) (hk:k≤1000000) (n:Int) :
 Calls Tryz.prog 78 #[.pointer (some ⟨q,0,none⟩),.int .i64 n] w (QPq w0 gd p x rd r q (y.T.length+0) ab ac a P (Q.unpin n).1 (.int .i64 (Q.unpin n).2)) :=
 (ref_Unpin rd r q y Q n w h.pq.qm hl.ok (fun f hf=>Nat.le_trans (hl.pins f hf) hk)).mono fun en w' hp=>h.ofQ hp
theorem pq_Alloc (h:PQA w0 w gd p x rd r q y ab ac a P Q) (hl:Live P W k cw cc) (hw:cw≤900000000) (hc:cc≤3000000000000000000) :
 Calls Tryz.prog 45 #[.pointer (some ⟨p,0,none⟩)] w (PPq w0 gd p rd r q y ab ac a P.alloc.1 Q (.tuple #[.int .i64 P.allocT,.int .i64 P.alloc.2])) :=
 (pool_Alloc x.b gd x.g x.m1 x.m2 p x.e x.h x.t x.A P w h.pq.pm hl.ok ((hl.fit hw hc).less (by omega))).mono fun en w' hp=>by
   obtain ⟨he,b',n1,n2,A',h1,h2⟩:=hp
   exact ⟨he,⟨b',x.g,n1,n2,x.e,x.h,x.t,A'⟩,h.onP h1 h2⟩
theorem qq_Alloc (h:PQA w0 w gd p x rd r q y ab ac a P Q) (hl:Live Q W k cw cc) (hW:W≤40000) (hw:cw≤900000000) (hc:cc≤3000000000000000000) (hT:y.T.length≤900000) :
 Calls Tryz.prog 79 #[.pointer (some ⟨q,0,none⟩)] w (QPq w0 gd p x rd r q (y.T.length+2) ab ac a P Q.alloc.1 (.tuple #[.int .i64 Q.allocT,.int .i64 Q.alloc.2])):=by
 obtain ⟨B,N,fB,i1,i2,i3⟩:=hl.book
 exact (ref_Alloc rd r q y Q B N w h.pq.qm i1 i2 (by have:=hl.wt;omega) hl.up ((hl.fit hw hc).less (by omega)) hT).mono fun en w' hp=>h.ofQ hp
theorem pq_Free (h:PQA w0 w gd p x rd r q y ab ac a P Q) (hl:Live P W k cw cc) (hw:cw≤900000000) (hc:cc≤3000000000000000000) (n:Int) (hn:in64' n) :
 Calls Tryz.prog 80 #[.pointer (some ⟨p,0,none⟩),.int .i64 n] w (PPq w0 gd p rd r q y ab ac a (P.freeP n).1 Q (.int .i64 (P.freeP n).2)) :=
 (pool_Free x.b gd x.g x.m1 x.m2 p x.e x.h x.t x.A P n hn w h.pq.pm hl.ok ((hl.fit hw hc).less (by omega))).mono fun en w' hp=>h.ofRoom hp
theorem qq_Free (h:PQA w0 w gd p x rd r q y ab ac a P Q) (hl:Live Q W k cw cc) (hW:W≤40000) (hw:cw≤900000000) (hc:cc≤3000000000000000000) (hT:y.T.length≤900000) (n:Int) :
 Calls Tryz.prog 81 #[.pointer (some ⟨q,0,none⟩),.int .i64 n] w (QPq w0 gd p x rd r q (y.T.length+2) ab ac a P (Q.freeP n).1 (.int .i64 (Q.freeP n).2)):=by
 obtain ⟨B,N,fB,i1,i2,i3⟩:=hl.book
 exact (ref_Free rd r q y Q B N n w h.pq.qm i1 i2 (by have:=hl.wt;omega) hl.up ((hl.fit hw hc).less (by omega)) hT).mono fun en w' hp=>h.ofQ hp
theorem Live.flushUp (hl:Live P W k cw cc) (hW:W≤40000):P.flushed.2=0→P.flushed.1.L.D.down=false:=fun hE=>by
 obtain ⟨B,N,fB,i1,i2,i3⟩:=hl.book
 exact ((flushed_then (i1.more (show W≤W+5 by omega)) (by have:=hl.wt;omega) (by have:=hl.wt;omega) i2.pos).1 hE).2.2.2.2.2
theorem pq_Commit (h:PQA w0 w gd p x rd r q y ab ac a P Q) (hl:Live P W k cw cc) (hW:W≤40000) (hw:cw≤900000000) (hc:cc≤3000000000000000000) :
 Calls Tryz.prog 32 #[.pointer (some ⟨p,0,none⟩)] w (PPq w0 gd p rd r q y ab ac a P.commit.1 Q (.int .i64 P.commit.2)) :=
 (pool_Commit x.b gd x.g x.m1 x.m2 p x.e x.h x.t x.A P w h.pq.pm hl.ok ((hl.fit hw hc).less (by omega)) (hl.flushUp hW)).mono fun en w' hp=>h.ofRoll hp
theorem qq_Commit (h:PQA w0 w gd p x rd r q y ab ac a P Q) (hl:Live Q W k cw cc) (hW:W≤40000) (hw:cw≤900000000) (hc:cc≤3000000000000000000) :
 Calls Tryz.prog 82 #[.pointer (some ⟨q,0,none⟩)] w (QPq w0 gd p x rd r q (y.T.length+0) ab ac a P Q.commit.1 (.int .i64 Q.commit.2)) :=
 (ref_PCommit rd r q y Q w h.pq.qm hl.ok hl.up ((hl.fit hw hc).less (by omega)) (hl.flushUp hW)).mono fun en w' hp=>h.ofQ hp
theorem pq_Checkpoint (h:PQA w0 w gd p x rd r q y ab ac a P Q) (hl:Live P W k cw cc) (hw:cw≤900000000) (hc:cc≤3000000000000000000) :
 Calls Tryz.prog 85 #[.pointer (some ⟨p,0,none⟩)] w (PPq w0 gd p rd r q y ab ac a P.check.1 Q (.int .i64 P.check.2)) :=
 (pool_Checkpoint x.b gd x.g x.m1 x.m2 p x.e x.h x.t x.A P w h.pq.pm hl.ok.log hl.up ((hl.fit hw hc).less (by omega))).mono fun en w' hp=>h.ofRoom hp
theorem qq_Checkpoint (h:PQA w0 w gd p x rd r q y ab ac a P Q) (hl:Live Q W k cw cc) (hw:cw≤900000000) (hc:cc≤3000000000000000000) :
 Calls Tryz.prog 86 #[.pointer (some ⟨q,0,none⟩)] w (QPq w0 gd p x rd r q (y.T.length+0) ab ac a P Q.check.1 (.int .i64 Q.check.2)) :=
 (ref_PCheckpoint rd r q y Q w h.pq.qm hl.ok.log hl.up ((hl.fit hw hc).less (by omega))).mono fun en w' hp=>h.ofQ hp
theorem live_rolledOk (hl:Live P W k cw cc):P.rolled.ok∧∃ l:Nat,l≤2147483647∧(wt P≤50000→(P.rolled.get 0).2=0→(P.rolled.get 0).1.lastF.s=sealS 4 l []):=by
 obtain ⟨B,N,fB,i1,i2,i3⟩:=hl.book
 obtain ⟨r1,r2⟩:=rolled_then i1
 exact ⟨r1.ok,fB,i3.le,fun hw hE=>root_get r1 i3 (by omega) hE⟩
theorem pq_Rollback (h:PQA w0 w gd p x rd r q y ab ac a P Q) (hl:Live P W k cw cc) (hw:cw≤900000000) (hc:cc≤3000000000000000000) :
 Calls Tryz.prog 83 #[.pointer (some ⟨p,0,none⟩)] w (PPq w0 gd p rd r q y ab ac a P.rollback.1 Q (.int .i64 P.rollback.2)) :=
 (pool_Rollback x.b gd x.g x.m1 x.m2 p x.e x.h x.t x.A P w h.pq.pm hl.ok (live_rolledOk hl).1 (show Fit P.L.D 1 from (hl.fit hw hc).less (by omega))).mono fun en w' hp=>h.ofRoll hp
theorem qq_Rollback (h:PQA w0 w gd p x rd r q y ab ac a P Q) (hl:Live Q W k cw cc) (hW:W≤40000) (hw:cw≤900000000) (hc:cc≤3000000000000000000) (hT:y.T.length≤900000) :
 Calls Tryz.prog 84 #[.pointer (some ⟨q,0,none⟩)] w (QPq w0 gd p x rd r q (y.T.length+0) ab ac a P Q.rollback.1 (.int .i64 Q.rollback.2)):=by
 obtain ⟨o1,l,l1,l2⟩:=live_rolledOk hl
 exact (ref_Rollback rd r q y Q w h.pq.qm hl.ok o1 hl.up ((hl.fit hw hc).less (by omega)) (by omega) l l1 (l2 (by have:=hl.wt;omega))).mono fun en w' hp=>h.ofQ hp
end
end Go.Proofs.YtjihboddejaelaaGreat
namespace Go.Proofs.YtjihboddejaelaaGreat
open Go.RowKit
theorem PIn.less {a b:Nat} {P:Pl} {B N:Bk} (h:PIn a P B N) (hb:P.L.fs.length≤b):PIn b P B N :=
 ⟨h.ok,⟨h.log.safe,⟨⟨h.log.kept.1.1,by rw [List.length_take];omega⟩,h.log.kept.2⟩,h.log.few⟩,h.pages,h.ring,h.lies,h.same,h.le⟩
theorem live_tight {P:Pl} {W W' k cw cc:Nat} (h:Live P W k cw cc) (hw:wt P≤W'):Live P W' k cw cc:=by
 obtain ⟨B,N,fB,a,b,d⟩:=h.book
 exact ⟨⟨B,N,fB,a.less (by unfold wt at hw;omega),b,d⟩,hw,h.most,h.pins,h.up,h.waits,h.count⟩
section
variable {mf:Nat} {P:Pl} {B N:Bk}
theorem commit_downs (h:PIn mf P B N) (r:Root N P.free) (hw:wt P≤50000) (hm2:wt P+1≤mf) (hd:dirtyN P.ring≠[]) (hE:P.commit.2≠0):P.commit.1.L.D.down=true:=by
 rw [commit_flushed] at hE ⊢
 by_cases h1:P.turned=[]
 ·rw [if_pos h1] at hE;exact absurd rfl hE
 ·rw [if_neg h1] at hE ⊢
  unfold Pl.flushed at hE ⊢
  rw [if_neg hd] at hE ⊢
  have hl:(dirtyN P.ring).length=(P.ring.filter (·.dirty)).length:=by unfold dirtyN;rw [List.length_mergeSort,List.length_map]
  obtain ⟨i1,i2⟩:=flush_then (dirtyN P.ring) P hd h (fun f hf hd=>dirtyN_mem.2 ⟨f,hf,hd,rfl⟩) (fun n hn=>by
   obtain ⟨f,hf,_,e⟩:=dirtyN_mem.1 hn
   exact List.mem_map.2 ⟨f,hf,e⟩) (by rw [hl];unfold wt at hw hm2;omega) r.pos
  generalize Pl.flush (dirtyN P.ring) P=R at *
  unfold Pl.told at hE ⊢
  by_cases h0:R.2=0
  ·rw [if_pos h0] at hE ⊢
   obtain ⟨j1,j2,j3,jk,j4,j5⟩:=i1 h0
   by_cases hk:1000≤R.1.L.fs.length
   ·rw [if_pos hk] at hE ⊢
    obtain ⟨c1,c2⟩:=(j1.noTurned j2).checked rfl j2
    have h11:R.1.L.checkpoint.2≠11:=fun h3=>check_eleven j1.log.safe.ok (by have:=j1.log.kept.1.1;have:=j1.log.few;omega) h3 jk.symm
    exact (c2 (fun h3=>h3.elim hE h11)).2.1
   ·rw [if_neg hk] at hE;exact absurd rfl hE
  ·rw [if_neg h0] at hE ⊢
   exact (i2 h0).2.1
theorem write_wt (h:PIn mf P B N) (hw:wt P≤50000) (x:Int) (s:ByteArray):wt (P.write x s).1≤wt P+1∧((P.write x s).2≠0→wt (P.write x s).1≤wt P):=by
 unfold Pl.write
 by_cases hx:x=0∨s.size≠1024
 ·rw [if_pos hx];exact ⟨Nat.le_succ _,fun _=>Nat.le_refl _⟩
 ·rw [if_neg hx]
  obtain ⟨_,_,p3,_,_⟩:=put_in h (by omega) x (s:=s) (Classical.byContradiction fun e=>hx (.inr e))
  refine ⟨p3, ?_⟩
  unfold Pl.put
  obtain ⟨g1,g2,g3⟩:=get_in h (by omega) x
  split
  ·exact fun h2=>absurd rfl h2
  ·exact fun _=>g2
theorem write_dirty (x:Int) (s:ByteArray) (hE:(P.write x s).2=0):dirtyN (P.write x s).1.ring≠[]∧(P.write x s).1.turned≠[]:=by
 unfold Pl.write at hE ⊢
 by_cases hx:x=0∨s.size≠1024
 ·rw [if_pos hx] at hE;cases hE
 ·rw [if_neg hx] at hE ⊢
  unfold Pl.put at hE ⊢
  by_cases h0:(P.get x).2=0
  ·rw [if_pos h0] at hE ⊢
   refine ⟨fun h2=>?_,fun h2=>?_⟩
   ·have:=dirty_none h2 _ (List.mem_append_right _ (List.mem_singleton.2 rfl))
    cases this
   ·have h2:insN x.toNat (P.get x).1.turned=[]:=h2
    unfold insN at h2
    split at h2
    ·rename_i h3;rw [h2] at h3;cases h3
    ·cases h2
  ·rw [if_neg h0] at hE;exact absurd hE h0
end
theorem turn_after {P:Pl} {W k cw cc:Nat} (h:Live P W k cw cc) (h1:1000≤W) (hW:W≤30000) (x:Int) (s:ByteArray) :
 After (P.write x s).1 (W+5) k (cw+300) (cc+71000)∧((P.write x s).2≠2→Live (P.write x s).1 (W+5) k (cw+300) (cc+71000) ∧
  (After (P.write x s).1.commit.1 (W+10) k (cw+600) (cc+142000))∧((P.write x s).1.commit.2≠2→Live (P.write x s).1.commit.1 W k (cw+600) (cc+142000))):=by
 have a1:=after_write h (by omega) x s
 refine ⟨a1,fun h2=>?_⟩
 have up1:(P.write x s).1.L.D.down=false:=by
  cases hd:(P.write x s).1.L.D.down
  ·rfl
  ·exact absurd (write_dnP h.up x s hd) h2
 have l1:=a1.live up1
 obtain ⟨a2,c2⟩:=after_commit l1 (by omega)
 rw [show W+5+5=W+10 by omega,show cw+300+300=cw+600 by omega,show cc+71000+71000=cc+142000 by omega] at a2
 refine ⟨l1,a2,fun h3=>?_⟩
 have up2:(P.write x s).1.commit.1.L.D.down=false:=by
  cases hd:(P.write x s).1.commit.1.L.D.down
  ·rfl
  ·exact absurd (commit_dn up1 hd) h3
 refine live_tight (a2.live up2) ?_
 obtain ⟨B,N,fB,a,b,d⟩:=h.book
 obtain ⟨w1,w2⟩:=write_wt a (by have:=h.wt;omega) x s
 have hwt:=h.wt
 obtain ⟨B1,N1,fB1,a1',b1',d1'⟩:=l1.book
 obtain ⟨t1,t2⟩:=commit_then (a1'.more (show W+5≤W+10 by omega)) b1' (by have:=l1.wt;omega) (by have:=l1.wt;omega)
 by_cases hE:(P.write x s).2=0
 ·obtain ⟨d1,d2⟩:=write_dirty x s hE
  by_cases hc:(P.write x s).1.commit.2=0
  ·have:=c2 hc d2 up2;omega
  ·have:=commit_downs (a1'.more (show W+5≤W+10 by omega)) b1' (by have:=l1.wt;omega) (by have:=l1.wt;omega) d1 hc
   rw [up2] at this;cases this
 ·have hw2:=w2 hE
  by_cases hc:(P.write x s).1.commit.2=0
  ·by_cases ht:(P.write x s).1.turned=[]
   ·have:(P.write x s).1.commit=((P.write x s).1,0):=by rw [commit_flushed,if_pos ht]
    rw [this];dsimp only;omega
   ·have:=c2 hc ht up2;omega
  ·rcases t2 hc with ⟨_,_,t3,_⟩ | ⟨_,t3⟩ | ⟨_,t3⟩
   ·omega
   ·rw [t3.1] at up2;cases up2
   ·rw [t3.1] at up2;cases up2
end Go.Proofs.YtjihboddejaelaaGreat
namespace Go.Proofs.YtjihboddejaelaaGreat
open Go.RowKit
open Go.BigFrame
def pickN' (c:Int) (n:Nat):Nat:=(if c<0 then (-(c+1)).toNat else c.toNat) % n
theorem pickN'_lt (c:Int) {n:Nat} (h:0<n):pickN' c n<n:=Nat.mod_lt _ h
set_option maxHeartbeats 400000 in
theorem law_pick (c:Int) (n:Nat) (hc:in64' c) (h0:0<n) (hn:n≤1000000) (w:World):Calls Tryz.prog 33 #[.int .i64 c,.int .i64 n] w fun e w'=>e = .returned (.int .i64 (pickN' c n:Nat))∧w=w':=by
 obtain ⟨x,hx⟩:∃ x,pickN' c n=x:=⟨_,rfl⟩
 rw [hx]
 by_cases hneg:c<0
 ·have w1:wrap64 (c+1)=c+1:=IntWalk.wrap64_in _ (by unfold in64' at hc;omega)
  have w2:wrap64 (-(c+1)) = -(c+1):=IntWalk.wrap64_in _ (by unfold in64' at hc;omega)
  have e:(-(c+1)).tmod (n:Int)=(x:Int):=by
   rw [← hx,pickN',if_pos hneg]
   rw [Int.tmod_eq_emod_of_nonneg (by omega),Int.natCast_emod,Int.toNat_of_nonneg (by omega)]
  have X:=Lib.hid hx
  clear hx hc
  go_enter Tryz.func33,Tryz.ntmps33
  go_wp2_with fail
  go_ret
  exact ⟨by first | rfl | simp_all,rfl⟩
 ·have e:c.tmod (n:Int)=(x:Int):=by
   rw [← hx,pickN',if_neg hneg]
   rw [Int.tmod_eq_emod_of_nonneg (by omega),Int.natCast_emod,Int.toNat_of_nonneg (by omega)]
  have X:=Lib.hid hx
  clear hx hc
  go_enter Tryz.func33,Tryz.ntmps33
  go_wp2_with fail
  go_ret
  exact ⟨by first | rfl | simp_all,rfl⟩
theorem after_more {P:Pl} {W W' k k' cw cw' cc cc':Nat} (h:After P W k cw cc) (h1:W≤W') (h2:k≤k') (h3:cw≤cw') (h4:cc≤cc'):After P W' k' cw' cc':=by
 refine ⟨fun hd=>(h.live hd).more h1 h2 h3 h4,fun hd=>?_⟩
 have l:=h.lost hd
 obtain ⟨B,C,fB,fC,l1,l2,l3,l4,l5⟩:=l.lost
 have ht:∀ {D:Dk} {B:Bk} {ks:List Int},TellsB W (D.crash ks).l0 (D.crash ks).l1 B→TellsB W' (D.crash ks).l0 (D.crash ks).l1 B:=fun {D B ks} ht=>⟨ht.1,⟨⟨ht.2.1.1.1,Nat.le_trans ht.2.1.1.2 h1⟩,ht.2.1.2⟩,ht.2.2⟩
 exact ⟨l.ok,l.down,Nat.le_trans l.count h4,by have:=l.waits;omega,B,C,fB,fC,⟨l1.1,fun ks=>(l1.2 ks).elim (fun x=>.inl (ht x)) (fun x=>.inr (ht x))⟩,l2,l3,l4,l5⟩
def StepPost (w0:World) (gd p rd r q ac:Nat) (a:ActV) (W k cw cc m:Nat) (v:Value) (e:Ending) (w':World):Prop :=
 e = .returned v∧∃ x y P',PQA w0 w' gd p x rd r q y ac ac a P' P'∧After P' (W+10) (k+1) (cw+300000) (cc+60000000)∧y.T.length≤m+500
theorem StepPost.of {w0 w':World} {gd p rd r q ab ac:Nat} {x:Bz} {y:Qx} {a:ActV} {P':Pl} {W k k' cw cc m n:Nat} (h:PQA w0 w' gd p x rd r q y ab ac a P' P') (ha:After P' (W+5) k' (cw+300) (cc+71000)) (hk:k'≤k+1) (hT:y.T.length≤n) (hn:n≤m+500) :
 StepPost w0 gd p rd r q ac a W k cw cc m (.bool true) (.returned (.bool true)) w':=⟨rfl,x,y,P',h.outer,after_more ha (by omega) (by omega) (by omega) (by omega),Nat.le_trans hT hn⟩
theorem wrap_next {i:Nat} (h:i<1000000):wrap64 ((i:Int)+1)=((i+1:Nat):Int):=by rw [IntWalk.wrap64_in _ (by omega)];omega
theorem next_less {i N:Nat} (h:i<N):N-(intOf (.int .i64 ((i+1:Nat):Int))).toNat<N-(intOf (.int .i64 (i:Int))).toNat:=by simp [intOf];omega
end Go.Proofs.YtjihboddejaelaaGreat
namespace Go.Proofs.YtjihboddejaelaaGreat
open Go.RowKit
open Go.BigFrame
theorem own_keepI {w w':World} {base:Nat} {e:TypeId} {size:Nat} {v:Value} {n:Nat} {xs:List Value} (h:w.ownsRow base e size v n xs) (hb:Below w.heap.size w w'):w'.ownsRow base e size v n xs:=by
 refine ⟨h.1, ?_⟩
 rcases h.2 with ⟨h1,h2⟩ | ⟨g,cap,cur,h1,h2,h3,h4⟩
 ·exact .inl ⟨h1,h2⟩
 ·exact .inr ⟨g,cap,cur,h1,h2,(hb.block g (Array.getElem?_eq_some_iff.1 h3).1).trans h3,h4⟩
theorem has_ownI {w:World} {g:Nat} {t:TypeId} {cur:Array Value} {B n cap size:Nat} (h:Has w g t cur) (hB:B≤g) (hn:n≤cap) (hc:cap≤maxLen) (hs:cur.size=cap*size):w.ownsRow B t size (.slice (some ⟨g,0,none⟩) n cap) n (cur.toList.take (n*size)) :=
 ⟨by rw [List.length_take,Array.length_toList,hs];exact Nat.min_eq_left (Nat.mul_le_mul_right _ hn),.inr ⟨g,cap,cur,rfl,hB,h,hn,hc,hs,rfl⟩⟩
set_option maxRecDepth 100000 in
set_option maxHeartbeats 3200000 in
theorem law_holds (x:Bz) (gd p rd r q:Nat) (y:Qx) (P:Pl) (w:World) (Hp:x.pm w gd p P) (Hq:QM w rd r q y P) (hl:P.ring.length≤64) :
 Calls Tryz.prog 30 #[.pointer (some ⟨p,0,none⟩),.pointer (some ⟨q,0,none⟩)] w fun e w'=>e = .returned (.bool true)∧Below w.heap.size w w':=by
 have C1:=Lib.hid (pool_Held x.b gd x.g x.m1 x.m2 p x.e x.h x.t x.A P w Hp hl)
 have C2:=Lib.hid (fun (w1:World) (hb:Below w.heap.size w w1)=>ref_Numbers rd r q y P w1 (Hq.below hb) hl)
 have C3:=Lib.hid (fun A A' c c' w1 h1 h2=>law_sameInts A A' P.ring.length c c' (numsF P.ring) w1 h1 h2 (Nat.le_trans hl (by decide)))
 obtain ⟨i0,hi,hz0,hz1,hz2⟩:=info_parts infoInt
 have G1:=Lib.hid (show P.ring.length+2≤maxLen by unfold maxLen;omega)
 have G2:=Lib.hid (show (P.ring.length+2)*8≤140737488355328 by omega)
 generalize P.ring.length=n at *
 generalize numsF P.ring=ks at *
 clear Hp Hq
 go_enter Tryz.func30,Tryz.ntmps30
 go_wp2_with (go_at_call 90;refine C1.out.mono ?_;rintro e w1 ⟨B1,c1,rfl,ho1,hb1⟩;have HO1:=Lib.hid ho1;have HB1:=Lib.hid hb1;clear ho1 hb1)
 go_wp2_with (first | (go_at_call 92;refine (C2.out _ HB1.out).mono ?_;rintro e w2 ⟨B2,c2,rfl,hi2,hb2⟩;have HI2:=Lib.hid hi2;have HO2:=Lib.hid (own_keepI HO1.out hb2);have HB2:=Lib.hid (bel_step HB1.out hb2 HB1.out.size);clear hi2 hb2) | (go_at_call 91;obtain ⟨A6,c6,hv6,_,hIS6,_⟩:=IS.of_own HO2.out;cases hv6;refine (C3.out _ _ _ _ _ hIS6 HI2.out).mono ?_;rintro e w3 ⟨rfl,hb3⟩;have HO3:=Lib.hid (own_keepI HO2.out hb3);have HB3:=Lib.hid (bel_step HB2.out hb3 HB2.out.size);clear hb3 hIS6))
 clear C1 C2 C3 HO1 HO2 HB1 HB2 HI2
 have HO:=HO3.out
 rcases HO.2 with ⟨hnil,hn0⟩ | ⟨g,cap,cur,hsl,hbg,hg,hnc,hcm,hcs,_⟩
 ·cases hnil
  clear HO
  go_loopw [7,16] (fun _ v16 wr=>v16 = .int .i64 0∧wr=w3) (fun _ _ _=>0)
  case atStart=>exact ⟨rfl,rfl⟩
  case round =>
   obtain ⟨rfl,rfl⟩:=hrel
   go_wp2_with ((at_builtin;refine wpList_append_src _ rfl (.tmp 23) (.tmp 24) 43 43 rfl (w.heap.size) 3 i0 _ 1 8 Tryz.underlying43 hi hz0 hz1 hz2 zeroCellsInt (by decide) (_) (0) (_) rfl (HO3.out.alloc _) (.slice (some ⟨_,0,none⟩) 2 2) (2) ([.int .i64 (-8),.int .i64 (-9)]) rfl (Src.ofSlice _ Tryz.underlying43 ⟨_,0,none⟩ 2 2 ([.int .i64 (-8),.int .i64 (-9)]) rfl (World.news_of_block (heap_alloc_new _ _)) (by simp [Value.oneCell'])) (G1.out) (G2.out) (Nat.le_trans HB3.out.size (by simp)) ?_;intro v1 w6 hown1 hg1 _ hat1))
   go_ret
   exact ⟨rfl,(HB3.out.alloc HB3.out.size _).grown hg1 (Nat.le_trans HB3.out.size (by simp)) (fun k hk=>(HO3.out.lt k hk).1)⟩
 ·cases hsl
  have HH:=Lib.hid (show Has w3 g 3 cur from hg)
  have HCS:=Lib.hid hcs
  have HCM:=Lib.hid hcm
  have HNC:=Lib.hid hnc
  have HBG:=Lib.hid hbg
  clear HO hg hcs hcm hnc hbg HO3
  go_loopw [7,16] (fun _ v16 wr=>∃ (k:Nat) (C:Array Value),k≤n∧v16 = .int .i64 k∧Has wr g 3 C∧C.size=c1*1∧Below w.heap.size w wr) (fun _ v16 _=>n-(intOf v16).toNat)
  case atStart=>exact ⟨0,cur,Nat.zero_le _,rfl,HH.out,HCS.out,HB3.out⟩
  case round =>
   clear HH HCS HB3
   obtain ⟨k,C,hk,rfl,hH,hC,hG⟩:=hrel
   have HH:=Lib.hid hH;have HC:=Lib.hid hC;have HG:=Lib.hid hG
   have hltr:=hH.lt
   clear hH hC hG
   by_cases hkn:k<n
   ·have kc:k<c1:=by have:=HNC.out;omega
    obtain ⟨a0,h0⟩:∃ a,wr.cell? ⟨g,k,none⟩=some a:=⟨_,by rw [HH.out.cell];exact Array.getElem?_eq_getElem (by rw [HC.out];omega)⟩
    have f0:=HH.out.frozen
    clear kc
    go_wp2_with fail
    go_roundw
    case rel=>exact ⟨k+1,_,by omega,by simp,HH.out.set _ _,by simp [HC.out],HG.out.setCell HBG.out _⟩
    case measure=>simp [intOf];omega
   ·obtain rfl:k=n:=by omega
    have HO:=Lib.hid (has_ownI (B:=w.heap.size) HH.out HBG.out HNC.out HCM.out HC.out)
    go_wp2_with ((at_builtin;refine wpList_append_src _ rfl (.tmp 23) (.tmp 24) 43 43 rfl (w.heap.size) 3 i0 _ 1 8 Tryz.underlying43 hi hz0 hz1 hz2 zeroCellsInt (by decide) (_) (k) (_) rfl (HO.out.alloc _) (.slice (some ⟨_,0,none⟩) 2 2) (2) ([.int .i64 (-8),.int .i64 (-9)]) rfl (Src.ofSlice _ Tryz.underlying43 ⟨_,0,none⟩ 2 2 ([.int .i64 (-8),.int .i64 (-9)]) rfl (World.news_of_block (heap_alloc_new _ _)) (by simp [Value.oneCell'])) (G1.out) (G2.out) (Nat.le_trans HG.out.size (by simp)) ?_;intro v1 w6 hown1 hg1 _ hat1))
    go_ret
    exact ⟨rfl,(HG.out.alloc HG.out.size _).grown hg1 (Nat.le_trans HG.out.size (by simp)) (fun k hk=>(HO.out.lt k hk).1)⟩
end Go.Proofs.YtjihboddejaelaaGreat
