/-
  Checkpoint of package wal: the whole.
-/
import Derived.Test.YtjihboddejaelaaGreatPr10
import Derived.Test.YtjihboddejaelaaGreatPr8
import Derived.Test.YtjihboddejaelaaGreatPr4
import Derived.Test.YtjihboddejaelaaGreatPr6
set_option linter.unusedVariables false
set_option linter.unusedSimpArgs false
namespace Go.Proofs.YtjihboddejaelaaGreat
open Go.RowKit
open Go.BigFrame
open Go.Maps
theorem make_none (w:World):(Instr.makeMap 104 none).run Tryz.prog w = .ok (.map (some w.heap.size)) (w.alloc (.map #[] 0)):=rfl
theorem put1_same (R:Rw) (m:Nat):R.put1 m={ R with D:=(R.put1 m).D }:=by
 unfold Rw.put1
 split
 ·rfl
 ·split <;> rfl
structure PutAt (R:Rw) (m:Nat) (M:Rw):Prop where
 le:m≤R.np
 goes:Rw.puts R.np 0 R=Rw.puts (R.np-m) m M
 same:M={ R with D:=M.D }
 fit:Fit M.D (70000-min m 65537)
theorem PutAt.start {R:Rw} (h:Fit R.D 70000):PutAt R 0 R:=⟨Nat.zero_le _,rfl,rfl,h.less (by omega)⟩
theorem PutAt.next {R M:Rw} {m:Nat} (h:PutAt R m M) (hm:m<R.np) (he:M.put1E m=0):PutAt R (m+1) (M.put1 m):=by
 refine ⟨hm, ?_, ?_,put1_fit h.fit⟩
 ·rw [h.goes,show R.np-m=(R.np-(m+1))+1 by omega,Rw.puts,if_pos he]
 ·have h2:=h.same
  have h3:=put1_same M m
  generalize M.put1 m=X at *
  rw [h3,h2]
theorem PutAt.stop {R M:Rw} {m:Nat} (h:PutAt R m M) (hm:m<R.np) (he:M.put1E m≠0):Rw.puts R.np 0 R=(M.put1 m,M.put1E m):=by
 rw [h.goes,show R.np-m=(R.np-(m+1))+1 by omega,Rw.puts,if_neg he]
theorem PutAt.last {R M:Rw} {m:Nat} (h:PutAt R m M) (hm:m=R.np):Rw.puts R.np 0 R=(M,0):=by
 rw [h.goes,show R.np-m=0 by omega,Rw.puts]
def PutHeld (w:World) (b:List (Option Nat)) (gd g m1 m2 N:Nat) (M:Rw) (wr:World):Prop :=
 ∃ b',LR wr b' gd g m1 m2 M∧Has wr N 97 #[.pointer (some ⟨g,0,none⟩)]∧some N∉b'++lb g m1 m2∧Turn (b++lb g m1 m2) (b'++lb g m1 m2) w wr
theorem PutHeld.disk {w wr w':World} {b b' b'':List (Option Nat)} {gd g m1 m2 N:Nat} {M:Rw} {D':Dk} (hl:LR wr b' gd g m1 m2 M) (hx:Has wr N 97 #[.pointer (some ⟨g,0,none⟩)]) (ho:some N∉b'++lb g m1 m2) (ht:Turn (b++lb g m1 m2) (b'++lb g m1 m2) w wr)
 (hd:DP w' b'' gd D') (hu:Turn b' b'' wr w'):PutHeld w b gd g m1 m2 N { M with D:=D' } w':=by
 obtain ⟨h1,h2⟩:=hl.onDisk hd hu
 exact ⟨b'',h1,hx.turn hu (fun h3=>ho (List.mem_append_left _ h3)),h2.not hx.lt ho,ht.trans h2⟩
set_option maxRecDepth 100000 in
set_option maxHeartbeats 6400000 in
theorem wal_Checkpoint (b:List (Option Nat)) (gd g m1 m2:Nat) (R:Rw) (w:World) (h:LR w b gd g m1 m2 R) (hfit:Fit R.D 70000) (hs:R.slot<2) (hnum:R.number<4) (hp:R.np≤4294967296) (hf1:∀ x,R.f1 x≤1000000) :
 Calls Tryz.prog 99 #[.pointer (some ⟨g,0,none⟩)] w (MapsPost w b gd g m1 m2 R.checkpoint.1 (.int .i64 R.checkpoint.2)):=by
 have HW:=Lib.hid (show Has (w.alloc (.cells #[.pointer (some ⟨g,0,none⟩)] 97)) w.heap.size 97 #[.pointer (some ⟨g,0,none⟩)]∧Below w.heap.size w (w.alloc (.cells #[.pointer (some ⟨g,0,none⟩)] 97)) from ⟨Has.new _ _ _,(Below.refl _ _).alloc (Nat.le_refl _) _⟩)
 have HL:=Lib.hid h
 have NB:=Lib.hid (show some w.heap.size∉b++lb g m1 m2 from fun h2=>by have:=h.lt h2;omega)
 by_cases h1:R.nf≠R.kf
 ·have e1:R.checkpoint=(R,11):=if_pos h1
  rw [e1]
  have t1:((R.nf:Int) != (R.kf:Int))=true:=by rw [bne_iff_ne];omega
  clear h hfit
  go_enter Tryz.func99,Tryz.ntmps99
  go_upto_region 1 with fail
  generalize w.alloc (.cells #[.pointer (some ⟨g,0,none⟩)] 97)=W at *
  have LW:=Lib.hid (HL.out.below HW.out.2)
  have x0:=HW.out.1.cell 0
  obtain ⟨z1,z2,z3⟩:=LW.out.now
  obtain ⟨z4,z5,z6⟩:=LW.out.old
  have gz:=LW.out.has.lt
  have hqb:=(Below.refl W.heap.size W).drew
  have LQ:=Lib.hid (LW.out.below hqb)
  go_region
  go_wp2_with fail
  go_ret
  exact ⟨rfl,b,m1,m2,LQ.out,(Turn.below _ HW.out.2).trans (Turn.below _ hqb)⟩
 ·have h1':R.nf=R.kf:=Classical.byContradiction h1
  have t1:((R.nf:Int) != (R.kf:Int))=false:=by rw [bne_eq_false_iff_eq];omega
  by_cases h2:R.nf=0
  ·have e1:R.checkpoint=(R,0):=(if_neg h1).trans (if_pos h2)
   rw [e1]
   have t2:((R.nf:Int) == 0)=true:=by simp;exact h2
   clear h hfit h1
   go_enter Tryz.func99,Tryz.ntmps99
   go_upto_region 1 with fail
   generalize w.alloc (.cells #[.pointer (some ⟨g,0,none⟩)] 97)=W at *
   have LW:=Lib.hid (HL.out.below HW.out.2)
   have x0:=HW.out.1.cell 0
   obtain ⟨z1,z2,z3⟩:=LW.out.now
   obtain ⟨z4,z5,z6⟩:=LW.out.old
   have gz:=LW.out.has.lt
   have hqb:=(Below.refl W.heap.size W).drew
   have LQ:=Lib.hid (LW.out.below hqb)
   go_region
   have XQ:=Lib.hid (HW.out.1.belowS hqb)
   have q0:=XQ.out.cell 0
   obtain ⟨q1,q2,q3⟩:=LQ.out.now
   have qz:=LQ.out.has.lt
   go_wp2_with fail
   go_ret
   exact ⟨rfl,b,m1,m2,LQ.out,(Turn.below _ HW.out.2).trans (Turn.below _ hqb)⟩
  ·have t2:((R.nf:Int) == 0)=false:=by rw [beq_eq_false_iff_ne];omega
   have EC:=Lib.hid (show R.checkpoint=if (Rw.puts R.np 0 R).2≠0 then Rw.puts R.np 0 R else (Rw.puts R.np 0 R).1.check3 from (if_neg h1).trans (if_neg h2))
   have HF:=Lib.hid hfit
   have HF1:=Lib.hid hf1
   have HP:=Lib.hid hp
   have H1':=Lib.hid h1'
   clear h hfit h1 hf1 hp h1' h2
   go_enter Tryz.func99,Tryz.ntmps99
   go_upto_region 1 with fail
   generalize w.alloc (.cells #[.pointer (some ⟨g,0,none⟩)] 97)=W at *
   have LW:=Lib.hid (HL.out.below HW.out.2)
   have x0:=HW.out.1.cell 0
   obtain ⟨z1,z2,z3⟩:=LW.out.now
   obtain ⟨z4,z5,z6⟩:=LW.out.old
   have gz:=LW.out.has.lt
   have hqb:=(Below.refl W.heap.size W).drew
   have LQ:=Lib.hid (LW.out.below hqb)
   go_region
   have XQ:=Lib.hid (HW.out.1.belowS hqb)
   have TQ:=Lib.hid ((Turn.below (b++lb g m1 m2) HW.out.2).trans (Turn.below _ hqb))
   have q0:=XQ.out.cell 0
   obtain ⟨q1,q2,q3⟩:=LQ.out.now
   have qz:=LQ.out.has.lt
   clear LW x0 z1 z2 z3 z4 z5 z6 gz HW hqb
   go_wp2_with fail
   go_loopw [29] (fun v29 wr=>∃ (m:Nat) (M:Rw),v29 = .int .i64 m∧PutAt R m M∧PutHeld w b gd g m1 m2 w.heap.size M wr) (fun v29 _=>R.np-(intOf v29).toNat)
   case atStart=>exact ⟨0,R,rfl,PutAt.start HF.out,b,LQ.out,XQ.out,NB.out,TQ.out⟩
   case round =>
    obtain ⟨m,M,rfl,hM,b',hl,hx,ho,ht⟩:=hrel
    have HM:=Lib.hid hM
    have HL2:=Lib.hid hl
    have HX:=Lib.hid hx
    have HO:=Lib.hid ho
    have HT:=Lib.hid ht
    clear hM hl hx ho ht LQ XQ TQ q0 q1 q2 q3 qz HL NB
    have y0:=HX.out.cell 0
    obtain ⟨z1,z2,z3⟩:=HL2.out.now
    have x0:=HL2.out.cell0
    have gz:=HL2.out.has.lt
    by_cases hm:m<R.np
    ·have F1:=Lib.hid (show M.f1=R.f1 by rw [HM.out.same])
     have mi:(m:Int)<(R.np:Int):=by omega
     have MP1:=Lib.hid HL2.out.map1
     have WN:=Lib.hid (wfI (x:=(m:Int)) (by omega) (by have:=HP.out;omega))
     have mw:wrap64 ((m:Int)*1024)=(m:Int)*1024:=IntWalk.wrap64_in _ (by have:=HP.out;omega)
     have mb:m≤4294967296:=by have:=HP.out;omega
     by_cases hk:M.f1 m=0
     ·have N1:=Lib.hid (HM.out.next hm (if_pos hk))
      have e1:M.put1 m=M:=if_pos hk
      rw [e1] at N1
      have HK:=Lib.hid hk
      clear hk e1
      go_wp2_with (at_lookup;refine wpList_lookup_mp _ rfl _ _ rfl m1 M.nf M.f1 rfl MP1.out (m:Int) rfl WN.out ?_;rw [HK.out])
      go_roundw
      case rel=>exact ⟨m+1,M,by simp,N1.out,b',HL2.out,HX.out,HO.out,HT.out⟩
      case measure=>simp [intOf];omega
     ·have hfm:=HF1.out m
      rw [← F1.out] at hfm
      have RD:=Lib.hid (wal_Read b' gd g m1 m2 M m wr HL2.out HM.out.fit.ok hfm)
      have hsz:=rwreadS_size HM.out.fit.ok (R:=M) m
      have HE:=Lib.hid (show M.put1E m=if M.readE m≠0 then M.readE m else M.D.writeE 0 (m*1024:Nat) (M.readS m) from if_neg hk)
      have HD:=Lib.hid (show M.put1 m=if M.readE m≠0 then M else { M with D:=M.D.write 0 (m*1024:Nat) (M.readS m) } from if_neg hk)
      have WT:=Lib.hid (disk_Write gd M.D b' 0 (m*1024:Nat) (M.readS m) wr HL2.out.disk HM.out.fit.ok (by have:=HM.out.fit.count;omega) (by have:=HM.out.fit.waits;omega) (by omega))
      obtain ⟨S,hS⟩:∃ S,M.readS m=S:=⟨_,rfl⟩
      obtain ⟨E1,hE1⟩:∃ E,M.readE m=E:=⟨_,rfl⟩
      rw [hS,hE1] at RD
      rw [hS,hE1] at HE HD
      rw [hS] at WT
      obtain ⟨E2,hE2⟩:∃ E,M.D.writeE 0 (m*1024:Nat) S=E:=⟨_,rfl⟩
      obtain ⟨D',hD'⟩:∃ E,M.D.write 0 (m*1024:Nat) S=E:=⟨_,rfl⟩
      rw [hE2] at HE
      rw [hD'] at HD
      rw [hE2,hD',Int.natCast_mul] at WT
      rw [show ((1024:Nat):Int)=1024 from rfl] at WT
      obtain ⟨k,hkk⟩:∃ k,M.f1 m=k:=⟨_,rfl⟩
      have HK:=Lib.hid hkk
      rw [hkk] at hk hfm
      have k0:((k:Int) == 0)=false:=by rw [beq_eq_false_iff_ne];omega
      clear hS hE1 hE2 hD' hkk hk hsz
      by_cases h3:E1=0
      ·subst h3
       have HE':=Lib.hid (show M.put1E m=E2 from HE.out.trans (if_neg (fun h=>h rfl)))
       have HD'':=Lib.hid (show M.put1 m={ M with D:=D' } from HD.out.trans (if_neg (fun h=>h rfl)))
       clear HE HD
       by_cases h4:E2=0
       ·subst h4
        have N1:=Lib.hid (HM.out.next hm HE'.out)
        rw [HD''.out] at N1
        go_wp2_with (first | (at_lookup;refine wpList_lookup_mp _ rfl _ _ rfl m1 M.nf M.f1 rfl MP1.out (m:Int) rfl WN.out ?_;rw [HK.out]) | (go_at_call 123;refine (RD.out).mono ?_;rintro e w1 ⟨rfl,rfl⟩) | (go_at_call 172;(with_reducible refine WT.out.mono ?_);rintro e w2 ⟨rfl,b2,hd2,ht2⟩;have HD2:=Lib.hid (PutHeld.disk HL2.out HX.out HO.out HT.out hd2 ht2);clear hd2 ht2))
        go_roundw
        case rel=>exact ⟨m+1,_,by simp,N1.out,HD2.out⟩
        case measure=>simp [intOf];omega
       ·have N1:=Lib.hid (HM.out.stop hm (by rw [HE'.out];exact h4))
        rw [HD''.out,HE'.out] at N1
        go_wp2_with (first | (at_lookup;refine wpList_lookup_mp _ rfl _ _ rfl m1 M.nf M.f1 rfl MP1.out (m:Int) rfl WN.out ?_;rw [HK.out]) | (go_at_call 123;refine (RD.out).mono ?_;rintro e w1 ⟨rfl,rfl⟩) | (go_at_call 172;(with_reducible refine WT.out.mono ?_);rintro e w2 ⟨rfl,b2,hd2,ht2⟩;have HD2:=Lib.hid (PutHeld.disk HL2.out HX.out HO.out HT.out hd2 ht2);clear hd2 ht2))
        go_ret
        rw [EC.out,N1.out,if_pos h4]
        obtain ⟨b3,q1,_,_,q4⟩:=HD2.out
        exact ⟨rfl,b3,m1,m2,q1,q4⟩
      ·have HE':=Lib.hid (show M.put1E m=E1 from HE.out.trans (if_pos h3))
       have HD'':=Lib.hid (show M.put1 m=M from HD.out.trans (if_pos h3))
       have N1:=Lib.hid (HM.out.stop hm (by rw [HE'.out];exact h3))
       rw [HD''.out,HE'.out] at N1
       clear HE HD
       go_wp2_with (first | (at_lookup;refine wpList_lookup_mp _ rfl _ _ rfl m1 M.nf M.f1 rfl MP1.out (m:Int) rfl WN.out ?_;rw [HK.out]) | (go_at_call 123;refine (RD.out).mono ?_;rintro e w1 ⟨rfl,rfl⟩))
       go_ret
       rw [EC.out,N1.out,if_pos h3]
       exact ⟨rfl,b',m1,m2,HL2.out,HT.out⟩
    ·have hm2:m=R.np:=by have:=HM.out.le;omega
     have R1:=Lib.hid (show R.checkpoint=M.check3 by rw [EC.out,HM.out.last hm2,if_neg (fun h=>h rfl)])
     have np:M.np=R.np:=by rw [HM.out.same]
     have CH:=Lib.hid (wal_checkChain b' b gd g m1 m2 w.heap.size M w wr HL2.out (HM.out.fit.less (by omega)) (by rw [HM.out.same];exact hs) (by rw [HM.out.same];exact hnum) (by rw [np];exact HP.out) HX.out HO.out HT.out)
     have r0:M.check3=if (upTo (checkEs M M.np) 3).2=0 then ({ checkR M M.np (upTo (checkEs M M.np) 3).1 with nf:=0,np:=(checkR M M.np (upTo (checkEs M M.np) 3).1).kp,f1:=fun _=>0,kf:=0,kp:=(checkR M M.np (upTo (checkEs M M.np) 3).1).kp,f2:=fun _=>0 },0) else (checkR M M.np (upTo (checkEs M M.np) 3).1,(upTo (checkEs M M.np) 3).2):=rfl
     obtain ⟨E,hE⟩:∃ E,(upTo (checkEs M M.np) 3).2=E:=⟨_,rfl⟩
     obtain ⟨C,hC⟩:∃ C,checkR M M.np (upTo (checkEs M M.np) 3).1=C:=⟨_,rfl⟩
     rw [hE,hC] at r0 CH
     rw [r0] at R1
     have mi:¬ ((m:Int)<(R.np:Int)):=by omega
     clear hE hC r0 np hm hm2
     by_cases hE0:E=0
     ·subst hE0
      have hmm:=make_none
      go_wp2_with ((go_at_call 116;refine CH.out.mono ?_);rintro e w2 ⟨rfl,hH⟩;obtain ⟨b2,hl,hx,ho,ht⟩:=hH;have HL3:=Lib.hid hl;have HX3:=Lib.hid (checkBox_of hx);have HT3:=Lib.hid ht;have HO3:=Lib.hid (ho (w.heap.size,97,#[.pointer (some ⟨g,0,none⟩)]) (by simp [checkXs]));have y1:=(checkBox_of hx).cell 0;have yl:=(checkBox_of hx).lt;obtain ⟨z4,z5,z6⟩:=hl.old;have zf:=hl.has.frozen;have zz:=hl.has.lt;clear hl hx ho ht)
      clear HM HL2 HX HO HT y0 z1 z2 z3 x0 gz CH
      have hz:=HL3.out.has.lt
      have EQ:=Lib.hid (show (((w2.alloc (.map #[] 0)).setCell ⟨g,4,none⟩ (.int .i64 0)).setCell ⟨g,5,none⟩ (.int .i64 C.kp)).setCell ⟨g,6,none⟩ (.map (some w2.heap.size))=(((w2.setCell ⟨g,4,none⟩ (.int .i64 0)).setCell ⟨g,5,none⟩ (.int .i64 C.kp)).setCell ⟨g,6,none⟩ (.map (some w2.heap.size))).alloc (.map #[] 0) by simp [go_sem,hz])
      have CP:=Lib.hid (fun m' w1 (h1:MP w1 m' 0 (fun _=>0))=>wal_copied m' 0 C.kp 0 (fun _=>0) w1 (by omega) h1)
      rw [show ((0:Nat):Int)=0 from rfl] at CP
      go_region
      all_goals
       have ba:=(Below.refl w2.heap.size w2).alloc (Nat.le_refl _) (.map #[] 0)
       obtain ⟨h5,t5⟩:=(HL3.out.below ba).newKept (Turn.below (b2++lb g m1 m2) ba) (MP.made w2) (fun h3=>by have:=HL3.out.lt h3;omega) (Nat.le_refl _) C.kp
       have x5:=((((HX3.out.alloc (.map #[] 0)).far (p:=⟨g,4,none⟩) (fun e=>HO3.out (by rw [e];exact List.mem_append_right _ (mem_lb.2 (.inl rfl)))) (.int .i64 0)).far (p:=⟨g,5,none⟩) (fun e=>HO3.out (by rw [e];exact List.mem_append_right _ (mem_lb.2 (.inl rfl)))) (.int .i64 C.kp)).far (p:=⟨g,6,none⟩) (fun e=>HO3.out (by rw [e];exact List.mem_append_right _ (mem_lb.2 (.inl rfl)))) (.map (some w2.heap.size)))
       rw [show ((0:Nat):Int)=0 from rfl,EQ.out] at h5 t5
       rw [EQ.out] at x5
       have HK:=Lib.hid h5
       have TK:=Lib.hid t5
       have XK:=Lib.hid x5
       clear h5 t5 x5 ba EQ hmm z4 z5 z6 zf zz y1 yl hz
       generalize (((w2.setCell ⟨g,4,none⟩ (.int .i64 0)).setCell ⟨g,5,none⟩ (.int .i64 C.kp)).setCell ⟨g,6,none⟩ (.map (some w2.heap.size))).alloc (.map #[] 0)=V at *
       have HU:=Lib.hid (HK.out.below (Below.refl _ _).drew)
       have XU:=Lib.hid (XK.out.belowS (Below.refl _ _).drew)
       have TU:=Lib.hid (TK.out.trans (Turn.below _ (Below.refl _ _).drew))
       clear HK XK TK
       generalize V.drew=U at *
       have y0:=XU.out.cell 0
       have LD:=Lib.hid (HU.out.below (Below.refl _ _).drew)
       have YD:=Lib.hid (XU.out.belowS (Below.refl _ _).drew)
       obtain ⟨q4,q5,q6⟩:=HU.out.old
       dsimp only at q4 q5 q6
       rw [show ((0:Nat):Int)=0 from rfl] at q4
       obtain ⟨q1,q2,q3⟩:=HU.out.now
       have qz:=HU.out.has.lt
       have qf:=HU.out.has.frozen
       go_wp2_with fail
       go_region_with ((go_at_call 115;refine (CP.out _ _ LD.out.map2).mono ?_);rintro e w3 ⟨m',rfl,hm,hlow,hb⟩;have HM:=Lib.hid hm;have HW:=Lib.hid hlow;have HB:=Lib.hid hb;have c1:=(LD.out.below hb).now;have y1:=(LD.out.below hb).has.lt;have yf:=(LD.out.below hb).has.frozen;have yl:=(YD.out.belowS hb).cell 0;clear hm hlow hb;obtain ⟨c1,c2,c3⟩:=c1)
       all_goals
        go_wp2_with fail
        go_ret
        have H3:=LD.out.below HB.out
        have hv:Turn (b2++lb g m1 w2.heap.size) (b2++lb g m1 w2.heap.size) U U.drew:=Turn.below _ (Below.refl _ _).drew
        obtain ⟨h4,t4⟩:=H3.newNow (hv.trans (Turn.below _ HB.out)) HM.out (fun h3=>by have:=LD.out.lt h3;have:=HW.out;omega) HW.out C.kp
        rw [show ((0:Nat):Int)=0 from rfl] at h4 t4
        rw [R1.out]
        first | rw [if_pos rfl] | rw [if_pos trivial]
        exact ⟨rfl,b2,m',w2.heap.size,h4,(HT3.out.trans TU.out).trans t4⟩
     ·go_wp2_with ((go_at_call 116;refine CH.out.mono ?_);rintro e w2 ⟨rfl,hH⟩;obtain ⟨b2,hl,hx,ho,ht⟩:=hH;have HL3:=Lib.hid hl;have HX3:=Lib.hid (checkBox_of hx);have HT3:=Lib.hid ht;have HO3:=Lib.hid (ho (w.heap.size,97,#[.pointer (some ⟨g,0,none⟩)]) (by simp [checkXs]));have y1:=(checkBox_of hx).cell 0;have yl:=(checkBox_of hx).lt;obtain ⟨z4,z5,z6⟩:=hl.old;have zf:=hl.has.frozen;have zz:=hl.has.lt;clear hl hx ho ht)
      go_ret
      rw [R1.out,if_neg hE0]
      exact ⟨rfl,b2,m1,m2,HL3.out,HT3.out⟩
end Go.Proofs.YtjihboddejaelaaGreat
namespace Go.Proofs.YtjihboddejaelaaGreat
open Go.RowKit
open Go.BigFrame
def plCells (g e h t:Nat) (P:Pl):Array Value:=#[ptrB g,.int .i64 P.most,ptrB e,.map (some h),.int .i64 P.pages,.int .i64 P.free,.map (some t),.int .i64 P.hits,.int .i64 P.misses,.int .i64 P.spills]
def heldOf:List Nat→List Pf→Int→Option Nat
 | a :: A,f :: F,x=>if (f.n:Int)=x then some a else heldOf A F x
 | _,_,_=>none
def turnOf (T:List Nat) (x:Int):Option Nat:=if ∃ n∈T,(n:Int)=x then some 1 else none
def pb (p e h t:Nat) (A:List Nat):List (Option Nat):=(p :: e :: h :: t :: A).map some
def allB (b:List (Option Nat)) (g m1 m2 p e h t:Nat) (A:List Nat):List (Option Nat):=(b++lb g m1 m2)++pb p e h t A
theorem mem_pb {p e h t k:Nat} {A:List Nat}:some k∈pb p e h t A↔k=p∨k=h∨k=t∨k∈e :: A:=by
 unfold pb;simp only [List.mem_map,List.mem_cons,Option.some.injEq,exists_eq_right]
 constructor
 ·rintro (h | h | h | h | h) <;> simp [h]
 ·rintro (h | h | h | h | h) <;> simp [h]
structure PM (w:World) (b:List (Option Nat)) (gd g m1 m2 p e h t:Nat) (A:List Nat) (P:Pl):Prop where
 log:LR w b gd g m1 m2 P.L.rw
 has:Has w p 106 (plCells g e h t P)
 ring:Ring w e A P.ring
 held:GM frElem w h (heldOf A P.ring) P.ring.length
 turned:GM (plainElem Tryz.prog 3) w t (turnOf P.turned) P.turned.length
 hp:p∉e :: A
 ht:h≠t
 off:Disj (b++lb g m1 m2) (pb p e h t A)
structure Pl.ok (P:Pl):Prop where
 log:P.L.ok
 names:(P.ring.map (·.n)).Nodup
 pages:∀ f∈P.ring,f.n<P.pages
 size:∀ f∈P.ring,f.s.size=1024
 most:P.most≤64
 full:P.ring.length≤P.most
 few:P.pages≤65536
 link:P.free≤2147483647
 turnd:P.turned.Nodup
 turns:∀ x∈P.turned,x<P.pages
theorem heldOf_none:∀ {A:List Nat} {F:List Pf} {x:Int},(∀ f∈F,(f.n:Int)≠x)→heldOf A F x=none
 | [],_,_,_=>by cases ‹List Pf› <;> rfl
 | _ :: _,[],_,_=>rfl
 | a :: A,f :: F,x,h=>by
   rw [heldOf,if_neg (h f (List.mem_cons_self ..))]
   exact heldOf_none fun g hg=>h g (List.mem_cons_of_mem _ hg)
theorem heldOf_app:∀ {A1 A2:List Nat} {F1 F2:List Pf} {x:Int},A1.length=F1.length→heldOf (A1++A2) (F1++F2) x=(heldOf A1 F1 x).or (heldOf A2 F2 x)
 | [],A2,[],F2,x,_=>by simp [heldOf]
 | a :: A1,A2,f :: F1,F2,x,h=>by
   rw [List.cons_append,List.cons_append,heldOf,heldOf]
   by_cases hx:(f.n:Int)=x
   ·rw [if_pos hx,if_pos hx];rfl
   ·rw [if_neg hx,if_neg hx];exact heldOf_app (by simpa using h)
 | [],_,_ :: _,_,_,h=>by simp at h
 | _ :: _,_,[],_,_,h=>by simp at h
theorem names_split {F1 F2:List Pf} {f:Pf} (h:((F1++f :: F2).map (·.n)).Nodup):(∀ g∈F1,(g.n:Int)≠(f.n:Int))∧(∀ g∈F2,(g.n:Int)≠(f.n:Int))∧((F1++F2).map (·.n)).Nodup:=by
 rw [List.map_append,List.map_cons,List.nodup_append,List.nodup_cons] at h
 obtain ⟨h1,⟨h2,h3⟩,h4⟩:=h
 refine ⟨fun g hg e=>?_,fun g hg e=>?_, ?_⟩
 ·exact h4 g.n (List.mem_map.2 ⟨g,hg,rfl⟩) f.n (List.mem_cons_self ..) (by omega)
 ·exact h2 (List.mem_map.2 ⟨g,hg,by omega⟩)
 ·rw [List.map_append,List.nodup_append]
  exact ⟨h1,h3,fun x hx y hy=>h4 x hx y (List.mem_cons_of_mem _ hy)⟩
theorem heldOf_at {A1 A2:List Nat} {a:Nat} {F1 F2:List Pf} {f:Pf} (h:((F1++f :: F2).map (·.n)).Nodup) (hl:A1.length=F1.length):heldOf (A1++a :: A2) (F1++f :: F2) f.n=some a:=by
 rw [heldOf_app hl,heldOf_none (names_split h).1,heldOf,if_pos rfl];rfl
theorem heldOf_del {A1 A2:List Nat} {a:Nat} {F1 F2:List Pf} {f:Pf} (h:((F1++f :: F2).map (·.n)).Nodup) (hl:A1.length=F1.length) (x:Int) :
 heldOf (A1++A2) (F1++F2) x=if x=f.n then none else heldOf (A1++a :: A2) (F1++f :: F2) x:=by
 obtain ⟨h1,h2,_⟩:=names_split h
 by_cases hx:x=f.n
 ·subst hx
  rw [if_pos rfl,heldOf_app hl,heldOf_none h1,heldOf_none h2];rfl
 ·rw [if_neg hx,heldOf_app hl,heldOf_app hl]
  congr 1
  rw [heldOf,if_neg (fun e=>hx e.symm)]
theorem heldOf_snoc {A:List Nat} {a:Nat} {F:List Pf} {f:Pf} (hl:A.length=F.length) (h:∀ g∈F,(g.n:Int)≠(f.n:Int)) (x:Int) :
 heldOf (A++[a]) (F++[f]) x=if x=f.n then some a else heldOf A F x:=by
 rw [heldOf_app hl]
 by_cases hx:x=f.n
 ·subst hx
  rw [if_pos rfl,heldOf_none h]
  simp [heldOf]
 ·rw [if_neg hx]
  have:heldOf [a] [f] x=none:=by rw [heldOf,if_neg (fun e=>hx e.symm)];rfl
  rw [this]
  cases heldOf A F x <;> rfl
theorem dropN_mid {F1 F2:List Pf} {f:Pf} (h:((F1++f :: F2).map (·.n)).Nodup):dropN f.n (F1++f :: F2)=F1++F2:=by
 obtain ⟨h1,h2,_⟩:=names_split h
 unfold dropN
 rw [List.filter_append,List.filter_cons,if_neg (by simp)]
 congr 1
 ·exact List.filter_eq_self.2 fun g hg=>by have:=h1 g hg;simp;omega
 ·exact List.filter_eq_self.2 fun g hg=>by have:=h2 g hg;simp;omega
theorem idle_none {F:List Pf} (h:∀ f∈F,f.pins≠0):idle F=none:=List.find?_eq_none.2 fun f hf=>by simpa using h f hf
theorem idle_at {F1 F2:List Pf} {f:Pf} (h:∀ g∈F1,g.pins≠0) (hf:f.pins=0):idle (F1++f :: F2)=some f:=by
 unfold idle
 rw [List.find?_append,List.find?_eq_none.2 (fun g hg=>by simpa using h g hg),List.find?_cons]
 simp [hf]
theorem find_at {F1 F2:List Pf} {f:Pf} {x:Int} (h:∀ g∈F1,(g.n:Int)≠x) (hf:(f.n:Int)=x):findN x (F1++f :: F2)=some f:=by
 unfold findN
 rw [List.find?_append,List.find?_eq_none.2 (fun g hg=>by simpa using h g hg),List.find?_cons]
 simp [hf]
theorem find_split {F:List Pf} {x:Int} {f:Pf} (h:findN x F=some f):∃ F1 F2,F=F1++f :: F2∧(f.n:Int)=x∧∀ g∈F1,(g.n:Int)≠x:=by
 unfold findN at h
 obtain ⟨h1,F1,F2,h2,h3⟩:=List.find?_eq_some_iff_append.1 h
 exact ⟨F1,F2,h2,by simpa using h1,fun g hg=>by simpa using h3 g hg⟩
theorem find_none {F:List Pf} {x:Int} (h:findN x F=none):∀ f∈F,(f.n:Int)≠x:=fun f hf=>by
 have:=List.find?_eq_none.1 h f hf
 simpa using this
section
variable {w w':World} {b b':List (Option Nat)} {gd g m1 m2 m1' m2' p e h t:Nat} {A A1 A2:List Nat} {a:Nat} {P:Pl}
theorem PM.ltp (H:PM w b gd g m1 m2 p e h t A P):∀ k,some k∈pb p e h t A→k<w.heap.size:=fun k hk=>by
 rcases mem_pb.1 hk with rfl | rfl | rfl | hk
 ·exact H.has.lt
 ·exact H.held.lt
 ·exact H.turned.lt
 ·exact H.ring.lt k hk
theorem PM.lt (H:PM w b gd g m1 m2 p e h t A P):∀ k,some k∈allB b g m1 m2 p e h t A→k<w.heap.size:=fun k hk=>by
 rcases List.mem_append.1 hk with hk | hk
 ·exact H.log.lt hk
 ·exact H.ltp k hk
theorem PM.below (H:PM w b gd g m1 m2 p e h t A P) (hb:Below w.heap.size w w'):PM w' b gd g m1 m2 p e h t A P :=
 ⟨H.log.below hb,H.has.belowS hb,H.ring.below hb,H.held.below hb,H.turned.below hb,H.hp,H.ht,H.off⟩
theorem PM.far {x x':List (Option Nat)} (H:PM w b gd g m1 m2 p e h t A P) (ht:Turn x x' w w') (hd:∀ k,some k∈x→some k∉allB b g m1 m2 p e h t A):PM w' b gd g m1 m2 p e h t A P:=by
 have hk:∀ k,some k∈allB b g m1 m2 p e h t A→w'.heap[k]? = w.heap[k]? := fun k hk=>ht.block k (H.lt k hk) (fun h2=>hd k h2 hk)
 have hq:∀ k,k=p∨k=h∨k=t∨k∈e :: A→w'.heap[k]? = w.heap[k]? := fun k hk2=>hk k (List.mem_append_right _ (mem_pb.2 hk2))
 exact ⟨H.log.far ht (fun k h1 h2=>hd k h1 (List.mem_append_left _ h2)),(hq p (.inl rfl)).trans H.has,H.ring.kept (fun k hk2=>hq k (.inr (.inr (.inr hk2)))),H.held.block (hq h (.inr (.inl rfl))),H.turned.block (hq t (.inr (.inr (.inl rfl)))),H.hp,H.ht,H.off⟩
theorem PM.onLog {L':Lg} (H:PM w b gd g m1 m2 p e h t A P) (hl:LR w' b' gd g m1' m2' L'.rw) (ht:Turn (b++lb g m1 m2) (b'++lb g m1' m2') w w') :
 PM w' b' gd g m1' m2' p e h t A { P with L:=L' }∧Turn (allB b g m1 m2 p e h t A) (allB b' g m1' m2' p e h t A) w w':=by
 have hq:∀ k,k=p∨k=h∨k=t∨k∈e :: A→w'.heap[k]? = w.heap[k]? := fun k hk2=>ht.block k (H.ltp k (mem_pb.2 hk2)) (fun h2=>H.off k h2 (mem_pb.2 hk2))
 exact ⟨⟨hl,(hq p (.inl rfl)).trans H.has,H.ring.kept (fun k hk2=>hq k (.inr (.inr (.inr hk2)))),H.held.block (hq h (.inr (.inl rfl))),H.turned.block (hq t (.inr (.inr (.inl rfl)))),H.hp,H.ht,disj_turn H.off ht H.ltp⟩,ht.left _⟩
theorem PM.set {P':Pl} (H:PM w b gd g m1 m2 p e h t A P) (i:Nat) (v:Value) (hc:(plCells g e h t P).setIfInBounds i v=plCells g e h t P') (h1:P'.L=P.L) (h2:P'.ring=P.ring) (h3:P'.turned=P.turned) :
 PM (w.setCell ⟨p,i,none⟩ v) b gd g m1 m2 p e h t A P'∧Turn (allB b g m1 m2 p e h t A) (allB b g m1 m2 p e h t A) w (w.setCell ⟨p,i,none⟩ v):=by
 have hm:some p∈pb p e h t A:=mem_pb.2 (.inl rfl)
 have ht:=set_turn [some p] p i v w (List.mem_singleton.2 rfl)
 have hph:¬ h=p:=fun x=>by subst x;exact H.held.notcells H.has
 have hpt:¬ t=p:=fun x=>by subst x;exact H.turned.notcells H.has
 refine ⟨⟨?_,hc ▸ H.has.set i v, ?_, ?_, ?_,H.hp,H.ht,H.off⟩,set_turn _ p i v w (List.mem_append_right _ hm)⟩
 ·rw [h1];exact H.log.far ht (fun k h5 h6=>by cases List.mem_singleton.1 h5;exact H.off p h6 hm)
 ·rw [h2];exact H.ring.kept fun x hx=>Below.heap_setCell _ _ _ _ (fun y=>H.hp (by rw [show p=x from y.symm];exact hx))
 ·rw [h2];exact H.held.far hph v
 ·rw [h3];exact H.turned.far hpt v
end
end Go.Proofs.YtjihboddejaelaaGreat
namespace Go.Proofs.YtjihboddejaelaaGreat
open Go.RowKit
theorem rw_down {L:Lg} {x:Int} (h:L.rw.readE x=0):L.D.down=false:=by
 cases hd:L.D.down
 ·rfl
 ·exfalso
  have h1:∀ f a n,L.rw.D.readE f a n=0→False:=fun f a n h=>by
   unfold Dk.readE at h
   simp [Lg.rw,hd] at h
   first | (split at h <;> simp_all) | simp_all
  have h2:L.rw.D.sizeE 0≠0:=by
   unfold Dk.sizeE
   simp [Lg.rw,hd]
  unfold Rw.readE at h
  by_cases h3:0≤x∧x≤2147483647
  ·rw [if_pos h3] at h
   by_cases h4:L.rw.f1 x≠0
   ·rw [if_pos h4] at h;exact h1 _ _ _ h
   ·rw [if_neg h4,if_pos h2] at h;exact h2 h
  ·rw [if_neg h3] at h;cases h
theorem read_size {L:Lg} (ok:L.ok) {x:Int} (h:L.rw.readE x=0):(L.rw.readS x).size=1024:=by
 have hd:=rw_down h
 obtain ⟨e1,e2⟩:=rw_read ok hd x
 rw [← e1]
 rw [← e2] at h
 unfold Lg.readE at h
 unfold Lg.readS
 split at h
 ·rename_i hx
  rw [if_pos ⟨hx.1,hx.2,hd⟩]
  rw [if_neg (by rw [hd];simp)] at h
  split at h
  ·rename_i hl
   rw [if_pos hl]
   have hlt:lastAt L.fs x-1<L.fs.length:=by have:=lastAt_le L.fs x;omega
   rw [List.getElem?_eq_getElem hlt]
   exact (ok.frames _ (List.getElem_mem hlt)).2
  ·rename_i hl
   rw [if_neg hl]
   split at h
   ·rename_i hs
    rw [if_pos hs,bsOf_size,partL]
    simp only [List.length_take,List.length_drop]
    have:(x.toNat:Int)=x:=Int.toNat_of_nonneg hx.1
    omega
   ·cases h
 ·cases h
theorem seal_size {K L:Nat} (h1:1≤K) (h2:K≤5) (h3:L≤2147483647) {cs:List ByteArray} (h4:usedN cs≤1012):(sealS K L cs).size=1024:=by
 unfold sealS
 rw [if_neg (by omega),bsOf_size]
 exact sealL_len h4
section
variable {P:Pl}
theorem Pl.ok.sub (ok:P.ok) {F:List Pf} (h:F.Sublist P.ring) {L':Lg} (hl:L'.ok) (s:Int):({ P with ring:=F,L:=L',spills:=s }:Pl).ok :=
 ⟨hl,(h.map _).nodup ok.names,fun f hf=>ok.pages f (h.subset hf),fun f hf=>ok.size f (h.subset hf),ok.most,Nat.le_trans h.length_le ok.full,ok.few,ok.link,ok.turnd,ok.turns⟩
theorem dropN_sub (x:Nat) (F:List Pf):(dropN x F).Sublist F:=List.filter_sublist
theorem spill_ok (ok:P.ok) (f:Pf):(P.spill f).1.ok:=by
 unfold Pl.spill
 split
 ·split
  ·exact ok.sub (dropN_sub _ _) (append_ok ok.log _ _) _
  ·exact ok.sub (List.Sublist.refl _) (append_ok ok.log _ _) _
 ·exact ok.sub (dropN_sub _ _) ok.log _
theorem spill_len (ok:P.ok) {f:Pf} (hf:f∈P.ring) (h:(P.spill f).2=0):(P.spill f).1.ring.length+1=P.ring.length:=by
 have hd:(dropN f.n P.ring).length+1=P.ring.length:=by
  obtain ⟨F1,F2,e⟩:=List.append_of_mem hf
  have nm:=ok.names
  rw [e] at nm ⊢
  rw [dropN_mid nm]
  simp;omega
 unfold Pl.spill at h ⊢
 split
 ·rename_i h1
  rw [if_pos h1] at h
  split
  ·exact hd
  ·rename_i h2
   rw [if_neg h2] at h;exact absurd h h2
 ·exact hd
theorem room_ok (ok:P.ok):P.room.1.ok∧(P.room.2=0→P.room.1.ring.length<P.most):=by
 unfold Pl.room
 split
 ·rename_i h;exact ⟨ok,fun _=>h⟩
 ·rename_i h
  split
  ·exact ⟨ok,fun h=>by cases h⟩
  ·rename_i f hf
   refine ⟨spill_ok ok f,fun h2=>?_⟩
   have hm:f∈P.ring:=List.mem_of_find?_eq_some hf
   have:=spill_len ok hm h2
   have:=ok.full
   omega
theorem spill_same (f:Pf):(P.spill f).1.most=P.most∧(P.spill f).1.pages=P.pages∧(P.spill f).1.free=P.free∧(P.spill f).1.turned=P.turned∧∀ x∈(P.spill f).1.ring,x∈P.ring:=by
 unfold Pl.spill
 split
 ·split <;> exact ⟨rfl,rfl,rfl,rfl,fun x hx=>by first | exact (dropN_sub _ _).subset hx | exact hx⟩
 ·exact ⟨rfl,rfl,rfl,rfl,fun x hx=>(dropN_sub _ _).subset hx⟩
theorem room_same:P.room.1.most=P.most∧P.room.1.pages=P.pages∧P.room.1.free=P.free∧P.room.1.turned=P.turned∧∀ x∈P.room.1.ring,x∈P.ring:=by
 unfold Pl.room
 split
 ·exact ⟨rfl,rfl,rfl,rfl,fun x hx=>hx⟩
 ·split
  ·exact ⟨rfl,rfl,rfl,rfl,fun x hx=>hx⟩
  ·exact spill_same _
theorem snoc_ok (ok:P.ok) {f:Pf} (hn:∀ g∈P.ring,(g.n:Int)≠(f.n:Int)) (hp:f.n<P.pages) (hs:f.s.size=1024) (hl:P.ring.length<P.most) (h m:Int):({ P with ring:=P.ring++[f],hits:=h,misses:=m }:Pl).ok:=by
 refine ⟨ok.log, ?_,fun g hg=>?_,fun g hg=>?_,ok.most, ?_,ok.few,ok.link,ok.turnd,ok.turns⟩
 ·show ((P.ring++[f]).map _).Nodup
  rw [List.map_append,List.nodup_append]
  refine ⟨ok.names,by simp,fun x hx y hy e=>?_⟩
  obtain ⟨g,hg,rfl⟩:=List.mem_map.1 hx
  have:y=f.n:=by simpa using hy
  exact hn g hg (by omega)
 ·rcases List.mem_append.1 hg with hg | hg
  ·exact ok.pages g hg
  ·rw [List.mem_singleton.1 hg];exact hp
 ·rcases List.mem_append.1 hg with hg | hg
  ·exact ok.size g hg
  ·rw [List.mem_singleton.1 hg];exact hs
 ·show (P.ring++[f]).length≤_
  rw [List.length_append,List.length_singleton];exact hl
theorem get_ok (ok:P.ok) (x:Int):(P.get x).1.ok:=by
 unfold Pl.get
 split
 ·rename_i hx
  split
  ·rename_i f hf
   obtain ⟨F1,F2,e,h1,h2⟩:=find_split hf
   have nm:=ok.names
   rw [e] at nm
   have hd:dropN f.n P.ring=F1++F2:=by rw [e];exact dropN_mid nm
   obtain ⟨n1,n2,_⟩:=names_split nm
   have hm:f∈P.ring:=by rw [e];exact List.mem_append_right _ (List.mem_cons_self ..)
   have ok2:({ P with ring:=dropN f.n P.ring }:Pl).ok:=ok.sub (dropN_sub _ _) ok.log _
   refine snoc_ok ok2 (fun g hg=>?_) (ok.pages f hm) (ok.size f hm) ?_ _ _
   ·rw [show ({ P with ring:=dropN f.n P.ring }:Pl).ring=F1++F2 from hd] at hg
    rcases List.mem_append.1 hg with hg | hg
    ·exact n1 g hg
    ·exact n2 g hg
   ·show (dropN f.n P.ring).length<P.most
    have:=ok.full
    rw [hd]
    rw [e] at this
    simp at this ⊢;omega
  ·rename_i hf
   split
   ·rename_i hr
    obtain ⟨r1,r2⟩:=room_ok ok
    have r3:=r2 hr
    unfold Pl.fetch
    split
    ·rename_i hE
     obtain ⟨s1,s2,s3,s4,s5⟩:=room_same (P:=P)
     refine snoc_ok r1 (fun g hg=>?_) ?_ (read_size r1.log hE) (by rw [s1];exact r3) _ _
     ·have:=find_none hf g (s5 g hg)
      show (g.n:Int)≠(x.toNat:Int)
      omega
     ·show x.toNat<P.room.1.pages
      rw [s2];omega
    ·exact r1
   ·exact (room_ok ok).1
 ·exact ok
end
end Go.Proofs.YtjihboddejaelaaGreat
namespace Go.Proofs.YtjihboddejaelaaGreat
open Go.RowKit
def TellsT (l1:List UInt8) (T:List Fr→Nat→Prop):Prop:=slotIx l1≠2∧T (framesOf l1 (slotOf l1 (slotIx l1)).2.1) (slotOf l1 (slotIx l1)).2.2∧SafeF l1
theorem TellsT.of {l1:List UInt8} {T:List Fr→Nat→Prop} {sl N f p:Nat} {fs:List Fr} (h:slotIx l1=sl∧slotOf l1 sl=(N,f,p)∧framesOf l1 f=fs) (hs:sl<2) (hk:T fs p) (hf:SafeF l1):TellsT l1 T:=by
 obtain ⟨h1,h2,h3⟩:=h
 unfold TellsT
 rw [h1,h2]
 dsimp only
 rw [h3]
 exact ⟨by omega,hk,hf⟩
theorem safe_tellsT {L:Lg} (h:Safe L) {T:List Fr→Nat→Prop} (hk:T (L.fs.take L.kept) L.pages) (keep:List Int):TellsT (L.D.crash keep).l1 T:=.of (after_crash h keep).2 h.ok.slot hk (safeF_crash h keep)
theorem tell_outT {L:Lg} (h:Safe L) (S:∀ keep,Synced (L.settle (L.D.crash keep).l1)) (h64:∀ keep,64≤(L.D.crash keep).l1.length) {f p:Nat} (hf:f≤L.fs.length) (hp:p<4294967296) {T U:List Fr→Nat→Prop} (hK:T (L.fs.take L.kept) L.pages) (hM:U (L.fs.take f) p) :
 (L.tellE f p=0→Synced (L.tell f p)∧(L.tell f p).fs=L.fs∧(L.tell f p).kept=f∧(L.tell f p).pages=p) ∧
 (L.tellE f p≠0→(L.tell f p).D.down=true∧∀ keep,TellsT ((L.tell f p).D.crash keep).l1 T∨TellsT ((L.tell f p).D.crash keep).l1 U):=by
 have hs:=h.ok.slot
 have eD:=tellD_eq hs f p
 have e1c:(L.D.crash [1]).l1=L.D.seen 1:=seen_crash _ _ _ _
 by_cases h1:L.D.stops
 ·have eE:L.tellE f p=2:=if_pos h1
  have eT:L.tell f p={ L with D:=L.tellD f p }:=if_pos h1
  have eC:L.tellD f p=L.D.turn:=by rw [eD];exact if_pos h1
  have hdn:L.D.turn.down=true:=by unfold Dk.turn;rw [if_pos h1]
  refine ⟨fun h2=>(by rw [eE] at h2;cases h2),fun _=>?_⟩
  rw [eT,eC]
  refine ⟨hdn,fun keep=>.inl ?_⟩
  show TellsT (L.D.turn.crash keep).l1 T
  rw [(crash_turn L.D keep).2]
  exact safe_tellsT h hK keep
 ·have eE:L.tellE f p=(L.tellD f p).turnE:=if_neg h1
  by_cases h2:(L.tellD f p).stops
  ·have eE2:L.tellE f p=2:=eE.trans (if_pos h2)
   have eT:L.tell f p={ L with D:=(L.tellD f p).sync 1 }:=(if_neg h1).trans (if_pos h2)
   have eY:(L.tellD f p).sync 1=(L.tellD f p).turn:=by
    unfold Dk.sync
    rw [if_pos (by decide),if_pos h2]
   have hdn:(L.tellD f p).turn.down=true:=by unfold Dk.turn;rw [if_pos h2]
   refine ⟨fun h3=>(by rw [eE2] at h3;cases h3),fun _=>?_⟩
   rw [eT,eY]
   refine ⟨hdn,fun keep=>?_⟩
   show TellsT ((L.tellD f p).turn.crash keep).l1 T∨TellsT ((L.tellD f p).turn.crash keep).l1 U
   rw [(crash_turn (L.tellD f p) keep).2]
   have w1:(L.tellD f p).l1=L.D.l1:=by rw [eD];exact (change_lasts _ _).2.1
   have w2:(L.tellD f p).waits=L.D.waits++[tellCh L f p]:=by
    rw [eD];unfold Dk.change;rw [if_neg h1]
   have z1:((L.tellD f p).crash keep).l1=crash1 (tellCh L f p) (howL keep (0+L.D.waits.length)) (L.D.crash keep).l1 1:=by
    show crashL keep (L.tellD f p).waits 0 1 (L.tellD f p).l1=_
    rw [w2,w1,crashL_append]
    rfl
   rw [z1]
   have mo:=mid_one (S keep) (h64 keep) hf hp (howL keep (0+L.D.waits.length))
   rcases mo with mo | mo
   ·exact .inl (.of mo hs hK (mid_safeF (S keep) (h64 keep) hf hp _))
   ·exact .inr (.of mo (by show 1-L.slot<2;omega) hM (mid_safeF (S keep) (h64 keep) hf hp _))
  ·have eE2:L.tellE f p=0:=eE.trans (if_neg h2)
   refine ⟨fun _=>?_,fun h3=>absurd eE2 h3⟩
   obtain ⟨t1,t2,t3⟩:=tell_settle h f p h1 h2
   have S1:=S [1]
   rw [e1c] at S1
   have h641:=h64 [1]
   rw [e1c] at h641
   have sy:=safe_tell S1 h641 hf hp t2 t3
   have b:(L.settle (L.D.seen 1)).tell f p={ L with D:=((L.settle (L.D.seen 1)).tellD f p).sync 1,slot:=1-L.slot,number:=L.number % 3+1,kept:=f,pages:=p }:=(if_neg t2).trans (if_neg t3)
   rw [t1]
   refine ⟨sy, ?_⟩
   rw [b]
   exact ⟨rfl,rfl,rfl⟩
structure Bk where
 q:Nat
 K:Nat→ByteArray
def LiesF (fs:List Fr) (n:Nat) (t:ByteArray):Prop:=lastAt fs n≠0∧(fs[lastAt fs n-1]?).map (·.text)=some t
def HoldsQ (B:Bk) (fs:List Fr) (p:Nat):Prop:=p=B.q∧∀ n,n<B.q→LiesF fs n (B.K n)
structure InvQ (L:Lg) (B:Bk):Prop where
 safe:Safe L
 kept:HoldsQ B (L.fs.take L.kept) L.pages
def LostQ (D:Dk) (B C:Bk):Prop:=D.down=true∧∀ keep,TellsT (D.crash keep).l1 (HoldsQ B)∨TellsT (D.crash keep).l1 (HoldsQ C)
theorem lies_snoc {fs:List Fr} {n:Nat} {t:ByteArray}:LiesF (fs++[⟨n,t⟩]) n t:=by
 unfold LiesF
 rw [lastAt_snoc,if_pos rfl]
 refine ⟨by omega, ?_⟩
 rw [show fs.length+1-1=fs.length by omega,List.getElem?_append_right (Nat.le_refl _),Nat.sub_self]
 rfl
theorem InvQ.lost {L:Lg} {B:Bk} (h:InvQ L B) (hd:L.D.down=true) (C:Bk):LostQ L.D B C:=⟨hd,fun keep=>.inl (safe_tellsT h.safe h.kept keep)⟩
theorem InvQ.turned {L:Lg} {B:Bk} (h:InvQ L B) (hs:L.D.stops):LostQ L.D.turn B B:=by
 refine ⟨by unfold Dk.turn;rw [if_pos hs],fun keep=>.inl ?_⟩
 rw [(crash_turn L.D keep).2]
 exact safe_tellsT h.safe h.kept keep
theorem LostQ.may {D:Dk} {B C:Bk} (h:LostQ D B B):LostQ D B C:=⟨h.1,fun keep=>.inl ((h.2 keep).elim id id)⟩
theorem append_eqQ {L:Lg} (hlen:L.fs.length≤60000) {n:Nat} (hn:n≤65536) {t:ByteArray} (ht:t.size=1024) :
 L.appendE n t=L.D.turnE∧L.append n t={ L with D:=L.D.change ⟨1,L.at_,bsOf (Fr.bytes ⟨n,t⟩),false⟩,fs:=if L.D.stops then L.fs else L.fs++[⟨n,t⟩] }:=by
 have hf:L.fitsA n t:=⟨by omega,by omega,ht⟩
 have hat:L.at_=64+1028*L.fs.length:=rfl
 have hfit:L.at_+1028≤67108864:=by omega
 have hb:=Fr.bytes_len ⟨n,t⟩ ht
 have hw:fitsF (1:Nat) (L.at_:Nat) (bsOf (Fr.bytes ⟨n,t⟩)).size:=fitsF_iff.2 ⟨by omega,by rw [bsOf_size];omega⟩
 refine ⟨(if_pos hf).trans (if_pos hfit),(if_pos ⟨hf,hfit⟩).trans ?_⟩
 have e:L.D.write 1 L.at_ (bsOf (Fr.bytes ⟨n,t⟩))=L.D.change ⟨1,L.at_,bsOf (Fr.bytes ⟨n,t⟩),false⟩:=by
  refine (if_pos hw).trans ?_
  rw [Int.toNat_natCast];rfl
 rw [Int.toNat_natCast,e]
section
variable {L:Lg} {B C:Bk}
end
end Go.Proofs.YtjihboddejaelaaGreat
namespace Go.Proofs.YtjihboddejaelaaGreat
open Go.RowKit
variable {mf:Nat}
def LiesQ (l0:List UInt8) (fs:List Fr) (n:Nat) (t:ByteArray):Prop :=
 if lastAt fs n≠0 then (fs[lastAt fs n-1]?).map (·.text)=some t else bsOf (partL l0 (1024*n) 1024)=t∧1024*n+1024≤l0.length
theorem LiesQ.of {l0:List UInt8} {fs:List Fr} {n:Nat} {t:ByteArray} (h:LiesF fs n t):LiesQ l0 fs n t:=by
 unfold LiesQ
 rw [if_pos h.1];exact h.2
theorem liesQ_snoc {l0:List UInt8} {fs:List Fr} {n:Nat} {t:ByteArray}:LiesQ l0 (fs++[⟨n,t⟩]) n t:=.of lies_snoc
theorem liesQ_other {l0:List UInt8} {fs:List Fr} {n m:Nat} {t s:ByteArray} (h:LiesQ l0 fs m s) (hn:m≠n):LiesQ l0 (fs++[⟨n,t⟩]) m s:=by
 unfold LiesQ at h ⊢
 rw [lastAt_snoc,if_neg (show ¬ ((⟨n,t⟩:Fr).n:Int)=m by show ¬ ((n:Nat):Int)=m;omega)]
 by_cases hl:lastAt fs m≠0
 ·rw [if_pos hl] at h ⊢
  rw [List.getElem?_append_left (by have:=lastAt_le fs m;omega)]
  exact h
 ·rw [if_neg hl] at h ⊢;exact h
def HoldsB (mf:Nat) (l0:List UInt8) (B:Bk) (fs:List Fr) (p:Nat):Prop:=(p=B.q∧fs.length≤mf)∧∀ n,n<B.q→LiesQ l0 fs n (B.K n)
def TellsB (mf:Nat) (l0 l1:List UInt8) (B:Bk):Prop:=TellsT l1 (HoldsB mf l0 B)
structure InvB (mf:Nat) (L:Lg) (B:Bk):Prop where
 safe:Safe L
 kept:HoldsB mf L.D.l0 B (L.fs.take L.kept) L.pages
 few:B.q≤65536
def LostB (mf:Nat) (D:Dk) (B C:Bk):Prop:=D.down=true∧∀ keep,TellsB mf (D.crash keep).l0 (D.crash keep).l1 B∨TellsB mf (D.crash keep).l0 (D.crash keep).l1 C
theorem LostB.may {D:Dk} {B C:Bk} (h:LostB mf D B B):LostB mf D B C:=⟨h.1,fun keep=>.inl ((h.2 keep).elim id id)⟩
theorem safe_tellsB {L:Lg} {B:Bk} (h:InvB mf L B) (keep:List Int):TellsB mf (L.D.crash keep).l0 (L.D.crash keep).l1 B:=by
 have e:(L.D.crash keep).l0=L.D.l0:=(after_crash h.safe keep).1
 unfold TellsB
 rw [e]
 exact safe_tellsT h.safe h.kept keep
theorem InvB.lost {L:Lg} {B:Bk} (h:InvB mf L B) (hd:L.D.down=true) (C:Bk):LostB mf L.D B C:=⟨hd,fun keep=>.inl (safe_tellsB h keep)⟩
theorem InvB.turned {L:Lg} {B:Bk} (h:InvB mf L B) (hs:L.D.stops) (C:Bk):LostB mf L.D.turn B C:=by
 refine ⟨by unfold Dk.turn;rw [if_pos hs],fun keep=>.inl ?_⟩
 obtain ⟨a,b⟩:=crash_turn L.D keep
 rw [a,b]
 exact safe_tellsB h keep
def KeepsQ (q:Nat) (F:Nat→Prop) (l l':List UInt8):Prop:=∀ n,n<q→¬ F n→1024*n+1024≤l.length→1024*n+1024≤l'.length∧partL l' (1024*n) 1024=partL l (1024*n) 1024
theorem KeepsQ.refl (q:Nat) (F:Nat→Prop) (l:List UInt8):KeepsQ q F l l:=fun _ _ _ h=>⟨h,rfl⟩
theorem KeepsQ.trans {q:Nat} {F:Nat→Prop} {l l1 l2:List UInt8} (h:KeepsQ q F l l1) (k:KeepsQ q F l1 l2):KeepsQ q F l l2:=fun n hn hf hl=>by
 obtain ⟨a,b⟩:=h n hn hf hl
 obtain ⟨c,d⟩:=k n hn hf a
 exact ⟨c,d.trans b⟩
theorem keeps_put {q:Nat} {F:Nat→Prop} {l t:List UInt8} {m:Nat} (hF:F m) (ht:t.length≤1024):KeepsQ q F l (putL l (1024*m) t):=fun n _ hf hl=>by
 have hne:n≠m:=fun e=>hf (e ▸ hF)
 exact ⟨by rw [putL_len];omega,partL_put (by omega) (by omega)⟩
theorem keeps_cut {q:Nat} {F:Nat→Prop} {l:List UInt8}:KeepsQ q F l (zt l (1024*q)):=fun n hn _ hl=>⟨by rw [zt_len];omega,partL_zt (by omega) hl⟩
def PgQ (q:Nat) (F:Nat→Prop) (c:Ch):Prop:=c.file=0∧((c.cut=true∧c.at_=1024*q)∨(c.cut=false∧∃ m,m<q∧F m∧c.at_=1024*m∧c.text.size=1024))
theorem crash1_keeps {q:Nat} {F:Nat→Prop} {c:Ch} (hc:PgQ q F c) (how:Int) {l:List UInt8}:KeepsQ q F l (crash1 c how l 0):=by
 have hcut:c.cut=true→c.at_=1024*q→KeepsQ q F l (c.done l):=fun h1 h2=>by
  have e:c.done l=zt l (1024*q):=by unfold Ch.done;rw [if_pos h1,h2];rfl
  rw [e];exact keeps_cut
 unfold crash1
 obtain ⟨hf,hk⟩:=hc
 rw [if_pos hf]
 rcases hk with ⟨h1,h2⟩ | ⟨h1,m,hm,hF,ha,hs⟩
 ·split
  ·exact hcut h1 h2
  ·split
   ·have e:c.half=c:=by unfold Ch.half;rw [if_pos h1]
    rw [e];exact hcut h1 h2
   ·exact .refl _ _ _
 ·have hn:¬ c.cut=true:=by rw [h1];decide
  split
  ·unfold Ch.done
   rw [if_neg hn,ha]
   exact keeps_put hF (by rw [Array.length_toList];show c.text.size≤_;omega)
  ·split
   ·unfold Ch.half
    rw [if_neg hn]
    unfold Ch.done
    rw [if_neg (show ¬ c.cut=true from hn)]
    dsimp only
    rw [ha]
    exact keeps_put hF (by rw [Array.length_toList];show (c.text.extract 0 (c.text.size / 2)).size≤_;rw [ByteArray.size_extract];omega)
   ·exact .refl _ _ _
theorem crashL_keeps (keep:List Int) {q:Nat} {F:Nat→Prop}:∀ (ws:List Ch) (i:Nat) (l:List UInt8),(∀ c∈ws,PgQ q F c)→KeepsQ q F l (crashL keep ws i 0 l)
 | [],i,l,_=>.refl _ _ _
 | c :: ws,i,l,h=>(crash1_keeps (h c (List.mem_cons_self ..)) (howL keep i)).trans (crashL_keeps keep ws (i+1) _ fun d hd=>h d (List.mem_cons_of_mem _ hd))
structure WetQ (q:Nat) (F:Nat→Prop) (D0 D:Dk):Prop where
 l0:D.l0=D0.l0
 l1:D.l1=D0.l1
 waits:∃ ws,D.waits=D0.waits++ws∧∀ c∈ws,PgQ q F c
section
variable {q:Nat} {F:Nat→Prop} {D0 D:Dk}
theorem WetQ.refl (q:Nat) (F:Nat→Prop) (D:Dk):WetQ q F D D:=⟨rfl,rfl,[],by simp,fun c hc=>by cases hc⟩
theorem WetQ.turn (h:WetQ q F D0 D):WetQ q F D0 D.turn:=by
 obtain ⟨a,b,c⟩:=turn_lasts D
 exact ⟨a.trans h.l0,b.trans h.l1,by rw [c];exact h.waits⟩
theorem WetQ.change (h:WetQ q F D0 D) {c:Ch} (hc:PgQ q F c):WetQ q F D0 (D.change c):=by
 obtain ⟨a,b,e⟩:=change_lasts D c
 refine ⟨a.trans h.l0,b.trans h.l1, ?_⟩
 obtain ⟨ws,h1,h2⟩:=h.waits
 rcases e with e | e
 ·exact ⟨ws,e.trans h1,h2⟩
 ·refine ⟨ws++[c],by rw [e,h1,List.append_assoc],fun d hd=>?_⟩
  rcases List.mem_append.1 hd with hd | hd
  ·exact h2 d hd
  ·rw [List.mem_singleton.1 hd];exact hc
theorem wetQ_l1 (h:WetQ q F D0 D) (keep:List Int):(D.crash keep).l1=(D0.crash keep).l1:=by
 obtain ⟨ws,h1,h2⟩:=h.waits
 show crashL keep D.waits 0 1 D.l1=crashL keep D0.waits 0 1 D0.l1
 rw [h1,h.l1,crashL_append]
 exact crashL_none keep ws _ 1 _ fun c hc=>by rw [(h2 c hc).1];omega
theorem wetQ_l0 (h:WetQ q F D0 D) (h0:∀ c∈D0.waits,c.file≠0) (keep:List Int):KeepsQ q F D0.l0 (D.crash keep).l0:=by
 obtain ⟨ws,h1,h2⟩:=h.waits
 have e:(D.crash keep).l0=crashL keep ws (0+D0.waits.length) 0 D0.l0:=by
  show crashL keep D.waits 0 0 D.l0=_
  rw [h1,h.l0,crashL_append,crashL_none keep D0.waits 0 0 D0.l0 h0]
 rw [e]
 exact crashL_keeps keep ws _ _ h2
theorem wetQ_seen (h:WetQ q F D0 D) (h0:∀ c∈D0.waits,c.file≠0):KeepsQ q F D0.l0 (D.seen 0)∧D.seen 1=D0.seen 1:=by
 have e:(D.crash [1]).l0=D.seen 0:=seen_crash _ _ _ _
 have e1:(D.crash [1]).l1=D.seen 1:=seen_crash _ _ _ _
 have e2:(D0.crash [1]).l1=D0.seen 1:=seen_crash _ _ _ _
 refine ⟨?_, ?_⟩
 ·rw [← e];exact wetQ_l0 h h0 [1]
 ·rw [← e1,← e2];exact wetQ_l1 h [1]
end
theorem put1_framedQ {L:Lg} (D:Dk) {m:Nat} (h:L.ok) (hm:m<65536) (hf:Framed L m):L.put1 D m=D.change ⟨0,1024*m,textOf L m,false⟩∧L.put1E D m=D.turnE:=by
 have hs:=(textOf_size h hf).1
 have hfit:fitsF (0:Nat) (1024*m:Nat) (textOf L m).size:=fitsF_iff.2 ⟨by omega,by omega⟩
 refine ⟨(if_pos hf).trans ((if_pos hfit).trans ?_),(if_pos hf).trans (if_pos hfit)⟩
 rw [Int.toNat_natCast];rfl
theorem put1_wetQ {L:Lg} {q:Nat} (hq:q≤65536) (h:L.ok) {D0 D:Dk} (hw:WetQ q (Framed L) D0 D) {m:Nat} (hm:m<q):WetQ q (Framed L) D0 (L.put1 D m)∧(L.put1E D m≠0→(L.put1 D m).down=true):=by
 by_cases hf:Framed L m
 ·obtain ⟨e1,e2⟩:=put1_framedQ D h (show m<65536 by omega) hf
  rw [e1,e2]
  exact ⟨hw.change ⟨rfl,.inr ⟨rfl,m,hm,hf,rfl,(textOf_size h hf).1⟩⟩,fun h2=>change_down h2⟩
 ·obtain ⟨e1,e2⟩:=put1_bare D hf
  rw [e1,e2]
  exact ⟨hw,fun h2=>absurd rfl h2⟩
theorem puts_wetQ {L:Lg} {q:Nat} (hq:q≤65536) (h:L.ok) {D0:Dk}:∀ (k m:Nat) (D:Dk),m+k≤q→WetQ q (Framed L) D0 D→WetQ q (Framed L) D0 (L.puts k m D).1∧((L.puts k m D).2≠0→(L.puts k m D).1.down=true)
 | 0,m,D,_,hw=>⟨hw,fun h2=>absurd rfl h2⟩
 | k+1,m,D,hm,hw=>by
   obtain ⟨a,b⟩:=put1_wetQ hq h hw (show m<q by omega)
   rw [Lg.puts]
   split
   ·exact puts_wetQ hq h k (m+1) _ (by omega) a
   ·exact ⟨a,b⟩
theorem puts_twoQ {L:Lg} (h:L.ok):∀ (k m:Nat) (D:Dk),m+k≤65536→(L.puts k m D).2=0∨(L.puts k m D).2=2
 | 0,m,D,_=>.inl rfl
 | k+1,m,D,hm=>by
   rw [Lg.puts]
   split
   ·exact puts_twoQ h k (m+1) _ (by omega)
   ·by_cases hf:Framed L m
    ·rw [(put1_framedQ D h (show m<65536 by omega) hf).2]
     exact turnE_two D
    ·exact .inl (put1_bare D hf).2
theorem put1_seenQ {L:Lg} (h:L.ok) (D:Dk) {m:Nat} (hm:m<65536) :
 (∀ n,n≠m→1024*n+1024≤(D.seen 0).length→1024*n+1024≤((L.put1 D m).seen 0).length∧partL ((L.put1 D m).seen 0) (1024*n) 1024=partL (D.seen 0) (1024*n) 1024) ∧
 (L.put1E D m=0→Framed L m→1024*m+1024≤((L.put1 D m).seen 0).length∧bsOf (partL ((L.put1 D m).seen 0) (1024*m) 1024)=textOf L m):=by
 by_cases hf:Framed L m
 ·obtain ⟨e1,e2⟩:=put1_framedQ D h hm hf
  have hs:=(textOf_size h hf).1
  rw [e1,e2]
  have hts:(textOf L m).data.toList.length=1024:=by rw [Array.length_toList];exact hs
  by_cases hst:D.stops
  ·have e:D.change ⟨0,1024*m,textOf L m,false⟩=D.turn:=if_pos hst
   rw [e,D.turn_seen 0]
   exact ⟨fun n _ hl=>⟨hl,rfl⟩,fun h2=>absurd hst ((turnE_zero D).1 h2)⟩
  ·rw [Dk.change_seen _ _ hst,if_pos rfl]
   have ed:Ch.done ⟨0,1024*m,textOf L m,false⟩ (D.seen 0)=putL (D.seen 0) (1024*m) (textOf L m).data.toList:=by
    unfold Ch.done
    rw [if_neg (show ¬ (false=true) by decide)]
   rw [ed]
   refine ⟨fun n hn hl=>⟨by rw [putL_len];omega,partL_put (by omega) (by omega)⟩,fun _ _=>⟨by rw [putL_len];omega, ?_⟩⟩
   have:=partL_put_same (D.seen 0) (1024*m) (textOf L m).data.toList
   rw [hts] at this
   rw [this,bsOf_of]
 ·obtain ⟨e1,e2⟩:=put1_bare D hf
  rw [e1,e2]
  exact ⟨fun n _ hl=>⟨hl,rfl⟩,fun _ h2=>absurd h2 hf⟩
theorem puts_seenQ {L:Lg} (h:L.ok):∀ (k m:Nat) (D:Dk),m+k≤65536→(L.puts k m D).2=0 →
 (∀ n,n<m→1024*n+1024≤(D.seen 0).length→1024*n+1024≤((L.puts k m D).1.seen 0).length∧partL ((L.puts k m D).1.seen 0) (1024*n) 1024=partL (D.seen 0) (1024*n) 1024) ∧
 (∀ n,m≤n→n<m+k→Framed L n→1024*n+1024≤((L.puts k m D).1.seen 0).length∧bsOf (partL ((L.puts k m D).1.seen 0) (1024*n) 1024)=textOf L n)
 | 0,m,D,_,_=>⟨fun n _ hl=>⟨hl,rfl⟩,fun n h1 h2=>by omega⟩
 | k+1,m,D,hm,he=>by
   obtain ⟨a1,a2⟩:=put1_seenQ h D (show m<65536 by omega)
   rw [Lg.puts] at he ⊢
   by_cases h0:L.put1E D m=0
   ·rw [if_pos h0] at he ⊢
    obtain ⟨b1,b2⟩:=puts_seenQ h k (m+1) _ (by omega) he
    refine ⟨fun n hn hl=>?_,fun n h1 h2 hf=>?_⟩
    ·obtain ⟨c1,c2⟩:=a1 n (by omega) hl
     obtain ⟨d1,d2⟩:=b1 n (by omega) c1
     exact ⟨d1,d2.trans c2⟩
    ·by_cases hn:n=m
     ·subst hn
      obtain ⟨c1,c2⟩:=a2 h0 hf
      obtain ⟨d1,d2⟩:=b1 n (by omega) c1
      exact ⟨d1,by rw [d2];exact c2⟩
     ·exact b2 n (by omega) (by omega) hf
   ·rw [if_neg h0] at he
    exact absurd he h0
end Go.Proofs.YtjihboddejaelaaGreat
namespace Go.Proofs.YtjihboddejaelaaGreat
open Go.RowKit
variable {mf:Nat}
def NoZ (D:Dk) (l:List UInt8):Prop:=D.l0=l∧∀ c∈D.waits,c.file≠0
theorem NoZ.turn {D:Dk} {l:List UInt8} (h:NoZ D l):NoZ D.turn l:=by
 obtain ⟨a,_,c⟩:=turn_lasts D
 exact ⟨a.trans h.1,by rw [c];exact h.2⟩
theorem NoZ.change {D:Dk} {l:List UInt8} (h:NoZ D l) {c:Ch} (hc:c.file≠0):NoZ (D.change c) l:=by
 obtain ⟨a,_,e⟩:=change_lasts D c
 refine ⟨a.trans h.1,fun d hd=>?_⟩
 rcases e with e | e
 ·rw [e] at hd;exact h.2 d hd
 ·rw [e] at hd
  rcases List.mem_append.1 hd with hd | hd
  ·exact h.2 d hd
  ·rw [List.mem_singleton.1 hd];exact hc
theorem NoZ.sync1 {D:Dk} {l:List UInt8} (h:NoZ D l):NoZ (D.sync 1) l:=by
 by_cases hs:D.stops
 ·have e:D.sync 1=D.turn:=by
   unfold Dk.sync
   rw [if_pos (by decide),if_pos hs]
  rw [e];exact h.turn
 ·have e:D.sync 1=D.syncT 1:=by
   unfold Dk.sync
   rw [if_pos (by decide),if_neg hs];rfl
  rw [e]
  refine ⟨h.1,fun c hc=>?_⟩
  have hc2:c∈D.waits.filter (fun c=>decide (c.file≠1)):=hc
  exact h.2 c (List.mem_filter.1 hc2).1
theorem NoZ.crash {D:Dk} {l:List UInt8} (h:NoZ D l) (keep:List Int):(D.crash keep).l0=l:=(crashL_none keep D.waits 0 0 D.l0 h.2).trans h.1
theorem tell_noZ {L:Lg} {l:List UInt8} (h:NoZ L.D l) (hs:L.slot<2) (f p:Nat):NoZ (L.tell f p).D l:=by
 have e:=tellD_eq hs f p
 have h1:NoZ (L.tellD f p) l:=by
  rw [e];exact h.change (by show (1:Nat)≠0;omega)
 unfold Lg.tell
 split
 ·exact h1
 ·split
  ·exact h1.sync1
  ·exact h1.sync1
section
variable {L:Lg} {B C:Bk}
theorem append_b (h:InvB mf L B) (hlen:L.fs.length≤60000) {n:Nat} (hn:n≤65536) {t:ByteArray} (ht:t.size=1024) :
 InvB mf (L.append n t) B∧(L.append n t).D.l0=L.D.l0∧(L.append n t).pages=L.pages∧(L.append n t).kept=L.kept∧(L.appendE n t=0→(L.append n t).fs=L.fs++[⟨n,t⟩]∧L.D.down=false∧(L.append n t).D.down=false)∧(L.appendE n t≠0→L.appendE n t=2∧(L.append n t).fs=L.fs∧(L.append n t).D.down=true):=by
 obtain ⟨e1,e2⟩:=append_eqQ hlen hn ht
 have hs:=safe_append h.safe n t
 have hkl:=h.safe.ok.kept
 have hl:=(change_lasts L.D ⟨1,L.at_,bsOf (Fr.bytes ⟨n,t⟩),false⟩).1
 rw [e1]
 by_cases hst:L.D.stops
 ·have eE:L.D.turnE=2:=if_pos hst
  rw [e2,if_pos hst] at hs ⊢
  refine ⟨⟨hs, ?_,h.few⟩,hl,rfl,rfl,fun h2=>(by rw [eE] at h2;cases h2),fun _=>⟨eE,rfl, ?_⟩⟩
  ·show HoldsB mf (L.D.change _).l0 B _ _
   rw [hl];exact h.kept
  ·have e3:L.D.change ⟨1,L.at_,bsOf (Fr.bytes ⟨n,t⟩),false⟩=L.D.turn:=if_pos hst
   show (L.D.change _).down=true
   rw [e3];unfold Dk.turn;rw [if_pos hst]
 ·rw [e2,if_neg hst] at hs ⊢
  refine ⟨⟨hs, ?_,h.few⟩,hl,rfl,rfl,fun _=>⟨rfl,go_down hst,change_up hst⟩,fun h2=>absurd ((turnE_zero _).2 hst) h2⟩
  show HoldsB mf (L.D.change _).l0 B ((L.fs++[_]).take L.kept) L.pages
  rw [hl,List.take_append_of_le_length hkl];exact h.kept
theorem back_b (h:InvB mf L B):InvB mf L.back B:=by
 refine ⟨safe_back h.safe, ?_,h.few⟩
 show HoldsB mf L.D.l0 B ((L.fs.take L.kept).take L.kept) L.pages
 rw [List.take_take,Nat.min_self];exact h.kept
theorem tell_b (h:Safe L) (S:∀ keep,Synced (L.settle (L.D.crash keep).l1)) (h64:∀ keep,64≤(L.D.crash keep).l1.length) {f p:Nat} (hf:f≤L.fs.length) (hp:p≤65536) (hK:HoldsB mf L.D.l0 B (L.fs.take L.kept) L.pages) (hM:HoldsB mf L.D.l0 C (L.fs.take f) p) :
 (L.tellE f p=0→Synced (L.tell f p)∧(L.tell f p).D.l0=L.D.l0∧(L.tell f p).fs=L.fs∧(L.tell f p).kept=f∧(L.tell f p).pages=p)∧(L.tellE f p≠0→LostB mf (L.tell f p).D B C):=by
 obtain ⟨o1,o2⟩:=tell_outT h S h64 hf (by omega) (T:=HoldsB mf L.D.l0 B) (U:=HoldsB mf L.D.l0 C) hK hM
 have hz:=tell_noZ (L:=L) ⟨rfl,h.waits0⟩ h.ok.slot f p
 refine ⟨fun h2=>?_,fun h2=>?_⟩
 ·obtain ⟨p1,p3,p4,p5⟩:=o1 h2
  exact ⟨p1,hz.1,p3,p4,p5⟩
 ·obtain ⟨d1,d2⟩:=o2 h2
  refine ⟨d1,fun keep=>?_⟩
  have e:=hz.crash keep
  unfold TellsB
  rw [e];exact d2 keep
theorem commit_b (h:InvB mf L B) (hlen:L.fs.length≤60000) {n p:Nat} (hn:n≤65536) (hp:1≤p∧p≤65536) {t:ByteArray} (ht:t.size=1024) (hC:HoldsB mf L.D.l0 C (L.fs++[⟨n,t⟩]) p) :
 (L.commitE n t p=0→InvB mf (L.commit n t p) C∧(L.commit n t p).D.l0=L.D.l0∧(L.commit n t p).fs=L.fs++[⟨n,t⟩]∧(L.commit n t p).kept=L.fs.length+1∧(L.commit n t p).D.down=false)∧(L.commitE n t p≠0→L.commitE n t p=2∧LostB mf (L.commit n t p).D B C):=by
 obtain ⟨hI,hl0,_,_,a1,a2⟩:=append_b h hlen hn ht
 have cE:L.commitE n t p=if L.appendE n t=0 then (if (L.append n t).D.stops then 2 else ({ L.append n t with D:=(L.append n t).D.sync 1 }:Lg).tellE (L.append n t).fs.length p) else L.appendE n t:=(if_pos (by omega)).trans (by rw [Int.toNat_natCast])
 have cT:L.commit n t p=if L.appendE n t=0 then (if (L.append n t).D.stops then { L.append n t with D:=(L.append n t).D.sync 1 } else ({ L.append n t with D:=(L.append n t).D.sync 1 }:Lg).tell (L.append n t).fs.length p) else L.append n t:=(if_pos (by omega)).trans (by rw [Int.toNat_natCast])
 rw [cE,cT]
 clear cE cT
 have hq:=hC.1
 by_cases hA:L.appendE n t=0
 ·obtain ⟨hL,_,hAd⟩:=a1 hA
  clear a1 a2
  rw [if_pos hA,if_pos hA]
  generalize L.append n t=A at *
  by_cases hst:A.D.stops
  ·rw [if_pos hst,if_pos hst]
   refine ⟨fun h2=>(by cases h2),fun _=>⟨rfl, ?_⟩⟩
   have eY:A.D.sync 1=A.D.turn:=by
    unfold Dk.sync
    rw [if_pos (by decide),if_pos hst]
   show LostB mf (A.D.sync 1) B _
   rw [eY]
   exact hI.turned hst C
  ·rw [if_neg hst,if_neg hst]
   have sy:=safe_sync hI.safe hst
   have s0:=(sync_lasts hI.safe hst).1
   obtain ⟨X,hX⟩:∃ X:Lg,({ A with D:=A.D.sync 1 }:Lg)=X:=⟨_,rfl⟩
   have b0:X.D.l0=A.D.l0:=by rw [← hX];exact s0
   have b1:X.fs=A.fs:=by rw [← hX]
   have b2:X.kept=A.kept:=by rw [← hX]
   have b3:X.pages=A.pages:=by rw [← hX]
   rw [hX] at sy ⊢
   rw [← b1]
   have hfs:X.fs=L.fs++[⟨n,t⟩]:=b1.trans hL
   have h64:64≤X.D.l1.length:=by
    have hi:0<X.fs.length:=by rw [hfs];simp
    have hg:=List.getElem?_eq_getElem hi
    have:=partL_full (synced_lies sy hg) (Fr.bytes_len _ (sy.safe.ok.frames _ (List.mem_of_getElem? hg)).2) (by omega)
    omega
   have hM:HoldsB mf X.D.l0 C (X.fs.take X.fs.length) p:=by
    rw [List.take_of_length_le (Nat.le_refl _),hfs,b0,hl0];exact hC
   have hK:HoldsB mf X.D.l0 B (X.fs.take X.kept) X.pages:=by rw [b0,b1,b2,b3];exact hI.kept
   obtain ⟨o1,o2⟩:=tell_b sy.safe (fun keep=>by rw [(synced_crash sy keep).1];exact sy) (fun keep=>by rw [(synced_crash sy keep).2];exact h64) (f:=X.fs.length) (p:=p) (Nat.le_refl _) hp.2 hK hM
   refine ⟨fun h2=>?_,fun h2=>⟨(tellE_two X _ _).resolve_left h2,o2 h2⟩⟩
   obtain ⟨p1,p2,p3,p4,p5⟩:=o1 h2
   exact ⟨⟨p1.safe,by rw [p2,p3,p4,p5];exact hM,by omega⟩,by rw [p2,b0,hl0],by rw [p3];exact hfs,by rw [p4,hfs];simp,tell_live h2⟩
 ·rw [if_neg hA,if_neg hA]
  exact ⟨fun h2=>absurd h2 hA,fun _=>⟨(a2 hA).1,hI.lost (a2 hA).2.2 C⟩⟩
theorem wetQ_tells (h:InvB mf L B) (hfull:L.fs.length=L.kept) {D:Dk} (hw:WetQ B.q (Framed L) L.D D) (hd:D.down=true) (C:Bk):LostB mf D B C:=by
 refine ⟨hd,fun keep=>.inl ?_⟩
 obtain ⟨a0,a1⟩:=after_crash h.safe keep
 have b3:=wetQ_l0 hw h.safe.waits0 keep
 unfold TellsB
 rw [wetQ_l1 hw keep]
 refine .of a1 h.safe.ok.slot ⟨h.kept.1,fun n hn=>?_⟩ (safeF_crash h.safe keep)
 have hk:=h.kept.2 n hn
 unfold LiesQ at hk ⊢
 by_cases hl:lastAt (L.fs.take L.kept) n≠0
 ·rw [if_pos hl] at hk ⊢;exact hk
 ·rw [if_neg hl] at hk ⊢
  rw [List.take_of_length_le (by omega)] at hl
  obtain ⟨c1,c2⟩:=b3 n hn hl hk.2
  exact ⟨by rw [c2];exact hk.1,c1⟩
end
theorem LiesQ.uniq {l0:List UInt8} {fs:List Fr} {n:Nat} {t s:ByteArray} (h:LiesQ l0 fs n t) (k:LiesQ l0 fs n s):t=s:=by
 unfold LiesQ at h k
 by_cases hl:lastAt fs n≠0
 ·rw [if_pos hl] at h k
  rw [h] at k
  exact Option.some.inj k
 ·rw [if_neg hl] at h k
  exact h.1.symm.trans k.1
set_option maxRecDepth 100000 in
theorem after_putQ {L:Lg} {B:Bk} (h:InvB mf L B) (hfull:L.fs.length=L.kept) (h2:¬ L.kept=0) {D3:Dk} (hok3:D3.ok) (y1:D3.l1=L.D.l1) (y2:D3.waits=L.D.waits) (y3:D3.seen 1=L.D.seen 1)
 (v:KeepsQ B.q (Framed L) L.D.l0 D3.l0) (pg:∀ n,n<B.q→Framed L n→1024*n+1024≤D3.l0.length∧bsOf (partL D3.l0 (1024*n) 1024)=textOf L n) :
 (({ L with D:=D3 }:Lg).tellE 0 L.pages=0→InvB mf ({ ({ L with D:=D3 }:Lg).tell 0 L.pages with fs:=[] }:Lg) B∧∀ n,n<B.q→LiesQ (({ L with D:=D3 }:Lg).tell 0 L.pages).D.l0 [] n (B.K n)) ∧
 (({ L with D:=D3 }:Lg).tellE 0 L.pages≠0→({ L with D:=D3 }:Lg).tellE 0 L.pages=2∧LostB mf (({ L with D:=D3 }:Lg).tell 0 L.pages).D B B):=by
 have hs:=safe_disk h.safe hok3 y1 y2 y3
 have htake:L.fs.take L.kept=L.fs:=List.take_of_length_le (by omega)
 have hpq:=h.kept.1.1
 have hkept:=h.kept.2
 rw [htake] at hkept
 have hbare:∀ n,n<B.q→LiesQ D3.l0 [] n (B.K n):=fun n hn=>by
  have hk:=hkept n hn
  unfold LiesQ at hk ⊢
  rw [if_neg (show ¬ lastAt [] n≠0 from fun h2=>h2 rfl)]
  by_cases hl:lastAt L.fs n≠0
  ·rw [if_pos hl] at hk
   obtain ⟨c1,c2⟩:=pg n hn hl
   rw [(textOf_size h.safe.ok hl).2] at hk
   exact ⟨c2.trans (Option.some.inj hk),c1⟩
  ·rw [if_neg hl] at hk
   obtain ⟨c1,c2⟩:=v n hn hl hk.2
   exact ⟨by rw [c2];exact hk.1,c1⟩
 have hgrow:∀ n,n<B.q→LiesQ D3.l0 L.fs n (B.K n):=fun n hn=>by
  have hk:=hkept n hn
  have hb:=hbare n hn
  unfold LiesQ at hk hb ⊢
  by_cases hl:lastAt L.fs n≠0
  ·rw [if_pos hl] at hk ⊢;exact hk
  ·rw [if_neg hl] at hk ⊢
   rw [if_neg (show ¬ lastAt [] n≠0 from fun h2=>h2 rfl)] at hb
   exact hb
 have htop:64≤L.D.l1.length:=by
  have:=h.safe.top
  omega
 obtain ⟨M,hM⟩:∃ M:Lg,({ L with D:=D3 }:Lg)=M:=⟨_,rfl⟩
 have m0:M.D=D3:=by rw [← hM]
 have m1:M.fs=L.fs:=by rw [← hM]
 have m2:M.kept=L.kept:=by rw [← hM]
 have m3:M.pages=L.pages:=by rw [← hM]
 rw [hM] at hs ⊢
 have hfullM:M.fs.length=M.kept:=by rw [m1,m2];exact hfull
 have hKM:HoldsB mf M.D.l0 B (M.fs.take M.kept) M.pages:=by
  rw [m0,m1,m2,m3,htake]
  exact ⟨⟨hpq,by have:=h.kept.1.2;rwa [htake] at this⟩,hgrow⟩
 have hK0:HoldsB mf M.D.l0 B (M.fs.take 0) L.pages:=by
  rw [m0,List.take_zero]
  exact ⟨⟨hpq,Nat.zero_le _⟩,hbare⟩
 obtain ⟨o1,o2⟩:=tell_b hs (fun keep=>settle_crash hs hfullM keep) (fun keep=>by
  obtain ⟨_,hl⟩:=crashL_zt keep M.D.waits 0 1 M.D.l1 (64+1028*M.kept) hs.waits1
  have hl2:M.D.l1.length≤(M.D.crash keep).l1.length:=hl
  rw [m0,y1] at hl2
  rw [m0]
  omega) (f:=0) (p:=L.pages) (Nat.zero_le _) (by have:=h.few;omega) hKM hK0
 refine ⟨fun h3=>?_,fun h3=>⟨(tellE_two M _ _).resolve_left h3,o2 h3⟩⟩
 obtain ⟨p1,p2,p3,p4,p5⟩:=o1 h3
 generalize M.tell 0 L.pages=T at *
 have hl:∀ n,n<B.q→LiesQ T.D.l0 [] n (B.K n):=by rw [p2,m0];exact hbare
 refine ⟨⟨safe_nofs p1.safe p4, ?_,h.few⟩,hl⟩
 show HoldsB mf T.D.l0 B (([]:List Fr).take T.kept) T.pages
 rw [List.take_nil,p5]
 exact ⟨⟨hpq,Nat.zero_le _⟩,hl⟩
set_option maxRecDepth 100000 in
theorem check_b {L:Lg} {B:Bk} (h:InvB mf L B) :
 ((L.checkpoint.2=0∨L.checkpoint.2=11)→InvB mf L.checkpoint.1 B∧L.checkpoint.1.fs.length≤L.fs.length∧∀ n,n<B.q→∀ t,LiesQ L.D.l0 L.fs n t→LiesQ L.checkpoint.1.D.l0 L.checkpoint.1.fs n t) ∧
 (¬ (L.checkpoint.2=0∨L.checkpoint.2=11)→L.checkpoint.2=2∧LostB mf L.checkpoint.1.D B B):=by
 by_cases h1:L.fs.length≠L.kept
 ·have e:L.checkpoint=(L,11):=if_pos h1
  rw [e]
  exact ⟨fun _=>⟨h,Nat.le_refl _,fun _ _ _ h=>h⟩,fun h2=>absurd (.inr rfl) h2⟩
 ·have hfull:L.fs.length=L.kept:=Classical.byContradiction h1
  by_cases h2:L.kept=0
  ·have e:L.checkpoint=(L,0):=(if_neg h1).trans (if_pos h2)
   rw [e]
   exact ⟨fun _=>⟨h,Nat.le_refl _,fun _ _ _ h=>h⟩,fun h2=>absurd (.inl rfl) h2⟩
  ·have e:L.checkpoint=if (L.puts L.pages 0 L.D).2≠0 then ({ L with D:=(L.puts L.pages 0 L.D).1 },(L.puts L.pages 0 L.D).2) else L.check3 (L.puts L.pages 0 L.D).1:=(if_neg h1).trans (if_neg h2)
   have hok:=h.safe.ok
   have hpq:=h.kept.1.1
   have hfew:=h.few
   have htake:L.fs.take L.kept=L.fs:=List.take_of_length_le (by omega)
   have hkept:=h.kept.2
   rw [htake] at hkept
   obtain ⟨w1,w2⟩:=puts_wetQ hfew hok L.pages 0 L.D (by omega) (WetQ.refl B.q (Framed L) L.D)
   have p2:=puts_twoQ hok L.pages 0 L.D (by omega)
   have ps:=puts_seenQ hok L.pages 0 L.D (by omega)
   have okp:=(puts_ok L L.pages 0 L.D hok.disk).1
   rw [e]
   by_cases h3:(L.puts L.pages 0 L.D).2≠0
   ·rw [if_pos h3]
    have hp:(L.puts L.pages 0 L.D).2=2:=p2.resolve_left h3
    refine ⟨fun h4=>?_,fun _=>⟨hp,wetQ_tells h hfull w1 (w2 h3) B⟩⟩
    dsimp only at h4
    rw [hp] at h4
    exact absurd h4 (by decide)
   ·rw [if_neg h3]
    obtain ⟨_,q4⟩:=ps (Classical.byContradiction h3)
    clear ps p2 w2 h3 e
    generalize (L.puts L.pages 0 L.D).1=D1 at *
    have hfit:fitsF (0:Nat) (1024*L.pages:Nat) (0:Nat):=fitsF_iff.2 ⟨by omega,by omega⟩
    have eCE:D1.cutE 0 (1024*L.pages:Nat)=D1.turnE:=if_pos hfit
    have eCD:D1.cutD 0 (1024*L.pages:Nat)=D1.change ⟨0,1024*L.pages,⟨#[]⟩,true⟩:=by
     refine (if_pos hfit).trans ?_
     rw [Int.toNat_natCast];rfl
    have hpg:PgQ B.q (Framed L) ⟨0,1024*L.pages,⟨#[]⟩,true⟩:=⟨rfl,.inl ⟨rfl,by rw [hpq]⟩⟩
    have w3:=w1.change hpg
    have e0:L.check3 D1=if D1.cutE 0 (1024*L.pages:Nat)≠0 then ({ L with D:=D1.cutD 0 (1024*L.pages:Nat) },D1.cutE 0 (1024*L.pages:Nat)) else if (D1.cutD 0 (1024*L.pages:Nat)).stops then ({ L with D:=(D1.cutD 0 (1024*L.pages:Nat)).sync 0 },2) else (if ({ L with D:=(D1.cutD 0 (1024*L.pages:Nat)).sync 0 }:Lg).tellE 0 L.pages=0 then ({ ({ L with D:=(D1.cutD 0 (1024*L.pages:Nat)).sync 0 }:Lg).tell 0 L.pages with fs:=[] },0) else (({ L with D:=(D1.cutD 0 (1024*L.pages:Nat)).sync 0 }:Lg).tell 0 L.pages,({ L with D:=(D1.cutD 0 (1024*L.pages:Nat)).sync 0 }:Lg).tellE 0 L.pages)):=rfl
    rw [e0,eCE,eCD]
    clear e0 eCE eCD
    by_cases h4:D1.turnE≠0
    ·rw [if_pos h4]
     have hp:D1.turnE=2:=(turnE_two D1).resolve_left h4
     refine ⟨fun h5=>?_,fun _=>⟨hp,wetQ_tells h hfull w3 (change_down h4) B⟩⟩
     dsimp only at h5
     rw [hp] at h5
     exact absurd h5 (by decide)
    ·rw [if_neg h4]
     have h4':¬ D1.stops:=(turnE_zero D1).1 (Classical.byContradiction h4)
     have hs2:(D1.change ⟨0,1024*L.pages,⟨#[]⟩,true⟩).seen 0=zt (D1.seen 0) (1024*L.pages):=by
      rw [Dk.change_seen _ _ h4',if_pos rfl]
      unfold Ch.done
      rw [if_pos rfl];rfl
     obtain ⟨v3,v4⟩:=wetQ_seen w3 h.safe.waits0
     obtain ⟨ws,hws,hpgs⟩:=w3.waits
     have w31:=w3.l1
     have hD2ok:(D1.change ⟨0,1024*L.pages,⟨#[]⟩,true⟩).ok:=Dk.change_ok okp ⟨(show (0:Nat)<2 by omega),(show 1024*L.pages≤67108864 by omega),(show 1024*L.pages+0≤67108864 by omega),fun _=>rfl⟩
     generalize hD2:D1.change ⟨0,1024*L.pages,⟨#[]⟩,true⟩=D2 at *
     by_cases h5:D2.stops
     ·rw [if_pos h5]
      have eY:D2.sync 0=D2.turn:=by
       unfold Dk.sync
       rw [if_pos (by decide),if_pos h5]
      refine ⟨fun h6=>absurd h6 (by show ¬ ((2:Int)=0∨(2:Int)=11);decide),fun _=>⟨rfl, ?_⟩⟩
      show LostB mf (D2.sync 0) B B
      rw [eY]
      exact wetQ_tells h hfull w3.turn (by unfold Dk.turn;rw [if_pos h5]) B
     ·rw [if_neg h5]
      have eS:D2.sync 0=D2.syncT 0:=by
       unfold Dk.sync
       rw [if_pos (by decide),if_neg h5];rfl
      have y0:(D2.sync 0).l0=zt (D1.seen 0) (1024*L.pages):=by
       rw [eS]
       show (if 0=0 then D2.seen 0 else D2.l0)=_
       rw [if_pos rfl,hs2]
      have y1:(D2.sync 0).l1=L.D.l1:=by
       rw [eS]
       show (if 0=0 then D2.l1 else D2.seen 1)=_
       rw [if_pos rfl,w31]
      have y2:(D2.sync 0).waits=L.D.waits:=by
       rw [eS]
       show D2.waits.filter (fun c=>decide (c.file≠0))=_
       rw [hws,List.filter_append,List.filter_eq_self.2 (fun c hc=>by simp [h.safe.waits0 c hc]),List.filter_eq_nil_iff.2 (fun c hc=>by simp [(hpgs c hc).1]),List.append_nil]
      have y3:(D2.sync 0).seen 1=L.D.seen 1:=by
       have:=sync_seen D2 0 (by omega) 1 (by omega)
       exact this.trans v4
      have hD3ok:(D2.sync 0).ok:=Dk.sync_ok hD2ok 0
      have vk:KeepsQ B.q (Framed L) L.D.l0 (D2.sync 0).l0:=by rw [y0,← hs2];exact v3
      have vp:∀ n,n<B.q→Framed L n→1024*n+1024≤(D2.sync 0).l0.length∧bsOf (partL (D2.sync 0).l0 (1024*n) 1024)=textOf L n:=fun n hn hf=>by
       obtain ⟨c1,c2⟩:=q4 n (Nat.zero_le _) (by omega) hf
       obtain ⟨d1,d2⟩:=keeps_cut (q:=L.pages) (F:=fun _=>False) (l:=D1.seen 0) n (by omega) id c1
       rw [y0]
       exact ⟨d1,by rw [d2];exact c2⟩
      generalize D2.sync 0=D3 at *
      obtain ⟨a1,a2⟩:=after_putQ h hfull h2 hD3ok y1 y2 y3 vk vp
      by_cases h6:({ L with D:=D3 }:Lg).tellE 0 L.pages=0
      ·rw [if_pos h6]
       obtain ⟨b1,b2⟩:=a1 h6
       refine ⟨fun _=>⟨b1,Nat.zero_le _,fun n hn t ht=>?_⟩,fun h7=>absurd (.inl rfl) h7⟩
       rw [ht.uniq (hkept n hn)]
       exact b2 n hn
      ·rw [if_neg h6]
       obtain ⟨b1,b2⟩:=a2 h6
       refine ⟨fun h7=>?_,fun _=>⟨b1,b2⟩⟩
       dsimp only at h7
       rw [b1] at h7
       exact absurd h7 (by decide)
end Go.Proofs.YtjihboddejaelaaGreat
