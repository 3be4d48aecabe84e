/-
  The reference's disk (3): act, Write, Cut, Sync, Crash.
-/
import Derived.Test.YtjihboddejaelaaGreatPr2
set_option linter.unusedVariables false
set_option linter.unusedSimpArgs false
namespace Go.Proofs.YtjihboddejaelaaGreat
open Go.RowKit
open Go.BigFrame
theorem infoAct:(Tryz.prog.info? 160).map (fun i=>(i.zero,i.size,i.bytes))=some (some (.agg #[.int .i64 0,.int .i64 0,.string ⟨#[]⟩,.bool false]),4,40):=by kernel_rfl
theorem obr_app {w w':World} {r:Nat} {l0 l1:List UInt8} {ws:List Ch} {fs:Int} {dn:Bool} {ct:Nat} {vw v':Value} {c:Ch} {o:Obj}
 (h:Ob w r 136 (rCells l0 l1 fs dn ct vw) [rowA vw ws])
 (hown:w'.ownsRow 0 160 4 v' (ws.length+1) (chCells ws++c.cells)) (hg:(w.drew.alloc o).grownBy w' vw.ownBlock) (hat:v'.ownBlock=vw.ownBlock∨v'.ownBlock=some (w.drew.alloc o).heap.size) :
 Ob w' r 136 (rCells l0 l1 fs dn ct vw) [rowA v' (ws++[c])]∧Turn (blks r [rowA vw ws]) (blks r [rowA v' (ws++[c])]) w w':=by
 have hb:Below w.heap.size w (w.drew.alloc o):=(Below.refl _ _).drew.alloc (Nat.le_refl _) _
 have:=(h.below hb).row 0 (r:=rowA vw ws) (r':=rowA v' (ws++[c])) rfl hg (by
  show w'.ownsRow 0 160 4 v' (ws++[c]).length (chCells (ws++[c]))
  rw [chCells_snoc,List.length_append];exact hown) (hat.imp id fun e k hk=>by
   have hk2:v'.ownBlock=some k:=hk
   rw [e] at hk2;cases hk2;exact Nat.le_refl _)
 exact ⟨this.1,(Turn.below _ hb).trans this.2⟩
set_option maxRecDepth 100000 in
set_option maxHeartbeats 3200000 in
theorem refd_act (r:Nat) (D:Dk) (b:List (Option Nat)) (c:Ch) (w:World) (h:RP w b r D) (hok:D.ok) (hct:D.count≤4000000000000000000) (hws:D.waits.length≤1000000000) :
 Calls Tryz.prog 217 #[.pointer (some ⟨r,0,none⟩),actVal c] w (RPost w b r (D.change c) (.int .i64 D.turnE)):=by
 obtain ⟨i0,hi,hz0,hz1,hz2⟩:=info_parts infoAct
 have HBX:=Lib.hid (Has.new w 160 #[.int .i64 c.file,.int .i64 c.at_,.string c.text,.bool c.cut])
 have HB0:=Lib.hid ((Below.refl w.heap.size w).alloc (Nat.le_refl _) (.cells #[.int .i64 c.file,.int .i64 c.at_,.string c.text,.bool c.cut] 160))
 have NB:=Lib.hid (show some w.heap.size∉b from fun h2=>by have:=h.lt h2;omega)
 have HH:=Lib.hid h
 have T:=Lib.hid (fun w1 (h1:RP w1 b r D)=>refd_turn r D b w1 h1 hok hct)
 show Calls Tryz.prog 217 #[.pointer (some ⟨r,0,none⟩),.agg #[.int .i64 c.file,.int .i64 c.at_,.string c.text,.bool c.cut]] w _
 clear h hok hct
 by_cases hst:D.stops
 ·have E:=Lib.hid (show D.turnE=2∧D.change c=D.turn from ⟨if_pos hst,if_pos hst⟩)
  rw [E.out.2]
  rw [E.out.1] at T ⊢
  clear hst
  go_enter Tryz.func217,Tryz.ntmps217
  go_wp2_with (go_at_call 202;(with_reducible refine (T.out _ (HH.out.below HB0.out)).mono ?_);rintro e w1 ⟨rfl,b1,hd1,ht1⟩)
  go_ret
  exact ⟨rfl,b1,hd1,(Turn.below b HB0.out).trans ht1⟩
 ·have E:=Lib.hid (show D.turnE=0 from if_neg hst)
  have EC:=Lib.hid (show D.change c={ D.turn with waits:=D.waits++[c] } from if_neg hst)
  have ET:=Lib.hid (show D.turn={ D with fails:=if 0<D.fails then D.fails-1 else D.fails,count:=D.count+1 } from if_neg hst)
  rw [E.out] at T ⊢
  clear hst
  go_enter Tryz.func217,Tryz.ntmps217
  go_upto_region 3 with (go_at_call 202;(with_reducible refine (T.out _ (HH.out.below HB0.out)).mono ?_);rintro e w1 ⟨rfl,b1,hd1,ht1⟩)
  have HD1:=Lib.hid (show RPx w1 b1 r D.l0 D.l1 D.waits D.turn.fails D.turn.down D.turn.count by
   have h2:=hd1
   rw [ET.out] at h2 ⊢
   exact h2)
  have HT1:=Lib.hid ((Turn.below b HB0.out).trans ht1)
  have HX1:=Lib.hid (HBX.out.turn ht1 NB.out)
  clear hd1 ht1
  obtain ⟨vw,rfl,hO⟩:=HD1.out
  have HO:=Lib.hid hO
  obtain ⟨c0,c1,c2,c3,c4,c5⟩:=hO.has.cells6
  have cf:=hO.has.frozen
  have cz:=hO.has.lt
  obtain ⟨x0,x1,x2,x3⟩:=HX1.out.cells4r
  have xz:=HX1.out.lt
  clear hO
  have G1:=Lib.hid (show D.waits.length+1≤maxLen by unfold maxLen;omega)
  have G2:=Lib.hid (show (D.waits.length+1)*40≤140737488355328 by omega)
  go_region_law
   (refine step_append_src (by rfl) _ _ _ _ (by rfl) 0 160 i0 _ 4 40 Tryz.underlying134 hi hz0 hz1 hz2 zeroCellsCh (by omega) vw D.waits.length (chCells D.waits) (by rfl) ((HO.out.own 0 rfl).drew.alloc _) _ 1 c.cells (by rfl) (Src.ofSlice _ Tryz.underlying134 ⟨_,0,none⟩ 1 1 c.cells rfl (World.news_of_block (heap_alloc_new _ _)) (chCells_one c)) G1.out G2.out (Nat.zero_le _) ?_;intro A5 k5 w5 hown5 hgrow hat;have HR:=Lib.hid (obr_app HO.out hown5 hgrow hat);have gf5:=HR.out.1.has.frozen;have gc5:=HR.out.1.has.cells6.2.2.1;have gz5:=HR.out.1.has.lt)
  all_goals
   go_wp2_with fail
   go_ret
   refine ⟨rfl,_, ?_,HT1.out.trans (HR.out.2.trans (Turn.set _ _ 2 _ _))⟩
   unfold RP
   rw [EC.out]
   rw [ET.out] at HR ⊢
   exact ⟨_,rfl,HR.out.1.set 2 _⟩
set_option maxRecDepth 100000 in
set_option maxHeartbeats 1600000 in
theorem refd_Write (r:Nat) (D:Dk) (b:List (Option Nat)) (f a:Int) (s:ByteArray) (w:World) (h:RP w b r D) (hok:D.ok) (hct:D.count≤4000000000000000000) (hws:D.waits.length≤1000000000) (hs:s.size≤9223372036854775807) :
 Calls Tryz.prog 200 #[.pointer (some ⟨r,0,none⟩),.int .i64 f,.int .i64 a,.string s] w (RPost w b r (D.write f a s) (.int .i64 (D.writeE f a s))):=by
 have R:=Lib.hid (fun w1=>ref_fits f a s.size w1)
 have HH:=Lib.hid h
 by_cases hf:fitsF f a s.size
 ·rw [fitsR_yes hf] at R
  have T:=Lib.hid (fun w1 (h1:RP w1 b r D)=>refd_act r D b ⟨f.toNat,a.toNat,s,false⟩ w1 h1 hok hct hws)
  have E:=Lib.hid (show D.write f a s=D.change ⟨f.toNat,a.toNat,s,false⟩∧D.writeE f a s=D.turnE from ⟨if_pos hf,if_pos hf⟩)
  rw [E.out.1,E.out.2]
  unfold actVal at T
  simp only at T
  rw [show ((f.toNat:Nat):Int)=f from Int.toNat_of_nonneg hf.1,show ((a.toNat:Nat):Int)=a from Int.toNat_of_nonneg hf.2.2.1] at T
  obtain ⟨x,hx⟩:∃ x,D.turnE=x:=⟨_,rfl⟩
  obtain ⟨D',hD'⟩:∃ x,D.change ⟨f.toNat,a.toNat,s,false⟩=x:=⟨_,rfl⟩
  rw [hx,hD'] at T ⊢
  clear hx hD' hok hct hws h hf
  go_enter Tryz.func200,Tryz.ntmps200
  go_wp2_with (first | (go_at_call 216;(with_reducible refine (R.out _).mono ?_);rintro e w1 ⟨rfl,rfl⟩) | (go_at_call 217;(with_reducible refine (T.out _ HH.out).mono ?_);rintro e w2 ⟨rfl,hp⟩))
  go_ret
  exact ⟨rfl,hp⟩
 ·rw [fitsR_no hf] at R
  have E:=Lib.hid (show D.write f a s=D∧D.writeE f a s=1 from ⟨if_neg hf,if_neg hf⟩)
  rw [E.out.1,E.out.2]
  clear hf h
  go_enter Tryz.func200,Tryz.ntmps200
  go_wp2_with (go_at_call 216;(with_reducible refine (R.out _).mono ?_);rintro e w1 ⟨rfl,rfl⟩)
  go_ret
  exact RPost.refl HH.out
set_option maxRecDepth 100000 in
set_option maxHeartbeats 1600000 in
theorem refd_Cut (r:Nat) (D:Dk) (b:List (Option Nat)) (f a:Int) (w:World) (h:RP w b r D) (hok:D.ok) (hct:D.count≤4000000000000000000) (hws:D.waits.length≤1000000000) :
 Calls Tryz.prog 199 #[.pointer (some ⟨r,0,none⟩),.int .i64 f,.int .i64 a] w (RPost w b r (D.cutD f a) (.int .i64 (D.cutE f a))):=by
 have R:=Lib.hid (fun w1=>ref_fits f a 0 w1)
 have HH:=Lib.hid h
 by_cases hf:fitsF f a 0
 ·rw [fitsR_yes hf] at R
  have T:=Lib.hid (fun w1 (h1:RP w1 b r D)=>refd_act r D b ⟨f.toNat,a.toNat,⟨#[]⟩,true⟩ w1 h1 hok hct hws)
  have E:=Lib.hid (show D.cutD f a=D.change ⟨f.toNat,a.toNat,⟨#[]⟩,true⟩∧D.cutE f a=D.turnE from ⟨if_pos hf,if_pos hf⟩)
  rw [E.out.1,E.out.2]
  unfold actVal at T
  simp only at T
  rw [show ((f.toNat:Nat):Int)=f from Int.toNat_of_nonneg hf.1,show ((a.toNat:Nat):Int)=a from Int.toNat_of_nonneg hf.2.2.1] at T
  obtain ⟨x,hx⟩:∃ x,D.turnE=x:=⟨_,rfl⟩
  obtain ⟨D',hD'⟩:∃ x,D.change ⟨f.toNat,a.toNat,⟨#[]⟩,true⟩=x:=⟨_,rfl⟩
  rw [hx,hD'] at T ⊢
  clear hx hD' hok hct hws h hf
  go_enter Tryz.func199,Tryz.ntmps199
  go_wp2_with (first | (go_at_call 216;(with_reducible refine (R.out _).mono ?_);rintro e w1 ⟨rfl,rfl⟩) | (go_at_call 217;(with_reducible refine (T.out _ HH.out).mono ?_);rintro e w2 ⟨rfl,hp⟩))
  go_ret
  exact ⟨rfl,hp⟩
 ·rw [fitsR_no hf] at R
  have E:=Lib.hid (show D.cutD f a=D∧D.cutE f a=1 from ⟨if_neg hf,if_neg hf⟩)
  rw [E.out.1,E.out.2]
  clear hf h
  go_enter Tryz.func199,Tryz.ntmps199
  go_wp2_with (go_at_call 216;(with_reducible refine (R.out _).mono ?_);rintro e w1 ⟨rfl,rfl⟩)
  go_ret
  exact RPost.refl HH.out
set_option maxRecDepth 100000 in
set_option maxHeartbeats 3200000 in
theorem refd_Sync (r:Nat) (D:Dk) (b:List (Option Nat)) (f:Int) (w:World) (h:RP w b r D) (hok:D.ok) (hct:D.count≤4000000000000000000) (hws:D.waits.length≤1000000000) :
 Calls Tryz.prog 152 #[.pointer (some ⟨r,0,none⟩),.int .i64 f] w (RPost w b r (D.sync f) (.int .i64 (D.syncE f))):=by
 have R:=Lib.hid (fun w1=>ref_inB f 0 1 w1)
 have HH:=Lib.hid h
 have T:=Lib.hid (fun w1 (h1:RP w1 b r D)=>refd_turn r D b w1 h1 hok hct)
 by_cases hf:0≤f∧f<2
 ·rw [inB_yes hf.1 (by omega)] at R
  obtain ⟨F,rfl⟩:∃ F:Nat,f=F:=⟨f.toNat,by omega⟩
  obtain ⟨hf1,hf2⟩:=hf
  by_cases hst:D.stops
  ·have E:=Lib.hid (show D.turnE=2∧D.sync F=D.turn∧D.syncE F=2 from ⟨if_pos hst,by unfold Dk.sync;rw [if_pos ⟨hf1,hf2⟩,if_pos hst],by unfold Dk.syncE;rw [if_pos ⟨hf1,hf2⟩];exact if_pos hst⟩)
   rw [E.out.2.1,E.out.2.2]
   rw [E.out.1] at T
   clear hst h hok hct
   go_enter Tryz.func152,Tryz.ntmps152
   go_wp2_with (first | (go_at_call 63;(with_reducible refine (R.out _).mono ?_);rintro e w1 ⟨rfl,rfl⟩) | (go_at_call 202;(with_reducible refine (T.out _ HH.out).mono ?_);rintro e w2 ⟨rfl,hp⟩))
   go_ret
   exact ⟨rfl,hp⟩
  ·have E:=Lib.hid (show D.turnE=0∧D.syncE F=0 from ⟨if_neg hst,by unfold Dk.syncE;rw [if_pos ⟨hf1,hf2⟩];exact if_neg hst⟩)
   have ES:=Lib.hid (show D.sync F=D.syncT F by unfold Dk.sync;rw [if_pos ⟨hf1,hf2⟩,if_neg hst];rfl)
   have ET:=Lib.hid (show D.turn={ D with fails:=if 0<D.fails then D.fails-1 else D.fails,count:=D.count+1 } from if_neg hst)
   have TS:=Lib.hid (fun b1 w1 (h1:RP w1 b1 r D.turn)=>refd_Seen r D.turn b1 F w1 h1 (Dk.turn_ok hok) (by omega) (by rw [show D.turn.waits=D.waits by rw [ET.out]];exact hws))
   rw [Dk.turn_seen] at TS
   rw [E.out.2,ES.out]
   rw [E.out.1] at T
   clear hst h hok hct
   rcases (show F=0∨F=1 by omega) with rfl | rfl
   ·rw [show ((0:Nat):Int)=0 from rfl] at R TS ⊢
    go_enter Tryz.func152,Tryz.ntmps152
    go_upto_region 6 with (first | (go_at_call 63;(with_reducible refine (R.out _).mono ?_);rintro e w1 ⟨rfl,rfl⟩) | (go_at_call 202;(with_reducible refine (T.out _ HH.out).mono ?_);rintro e w1 ⟨rfl,b1,hd1,ht1⟩))
    have HDT:=Lib.hid hd1
    have HD1:=Lib.hid (show RPx w1 b1 r D.l0 D.l1 D.waits D.turn.fails D.turn.down D.turn.count by
     have h2:=hd1
     rw [ET.out] at h2 ⊢
     exact h2)
    have HT1:=Lib.hid ht1
    clear hd1 ht1
    go_cut [2] (fun s2 wx=>∃ b2,RPx wx b2 r (D.seen 0) D.l1 D.waits D.turn.fails D.turn.down D.turn.count∧Turn b b2 w wx)
    case first =>
     obtain ⟨vw,rfl,hO⟩:=HD1.out
     have HO:=Lib.hid hO
     obtain ⟨c0,c1,c2,c3,c4,c5⟩:=hO.has.cells6
     have cf:=hO.has.frozen
     have cz:=hO.has.lt
     clear hO
     obtain ⟨S,hS⟩:∃ S,bsOf (D.seen 0)=S:=⟨_,rfl⟩
     rw [hS] at TS
     have HS:=Lib.hid hS
     clear hS
     go_region_law
      (first | (go_simp;go_at_call 93;(with_reducible refine (TS.out _ _ (HDT.out.below (Below.refl _ _).drew)).mono ?_);rintro e w5 ⟨rfl,hb5⟩;have HR:=Lib.hid ((HO.out.below (Below.refl _ _).drew).below hb5);have HB5:=Lib.hid hb5;have gf5:=HR.out.has.frozen;have gc5:=HR.out.has.cells6;obtain ⟨g0,g1,g2,g3,g4,g5⟩:=gc5;have gz5:=HR.out.has.lt))
     all_goals
      go_wp2_with fail
      go_meet
      rw [← HS.out]
      exact ⟨_,⟨_,rfl,HR.out.set 0 _⟩,HT1.out.trans ((Turn.below _ (Below.refl _ _).drew).trans ((Turn.below _ HB5.out).trans (Turn.set _ _ 0 _ _)))⟩
    case rest =>
     clear HD1 HT1 HDT TS
     obtain ⟨b2,hd2,ht2⟩:=hcut
     obtain ⟨v4,rfl,hO⟩:=hd2
     have HO:=Lib.hid hO
     have HT2:=Lib.hid ht2
     obtain ⟨A4,k4,rfl,hnc,hcs⟩:=CS.of_own (show wc.ownsRow 0 160 4 v4 D.waits.length (chCells D.waits) from hO.own 0 rfl)
     have HCS:=Lib.hid hcs
     obtain ⟨c0,c1,c2,c3,c4,c5⟩:=hO.has.cells6
     have cf:=hO.has.frozen
     have cz:=hO.has.lt
     clear hO ht2 hcs
     obtain ⟨i1,hi1,hz3,hz4,hz5⟩:=info_parts infoAct
     go_wp2_with fail
     go_loopw [6,30] (fun v6 v36 wr=>∃ i:Nat,i≤D.waits.length∧v36 = .int .i64 i∧wr.ownsRow wc.heap.size 160 4 v6 (restL (D.waits.take i) 0).length (chCells (restL (D.waits.take i) 0))∧Below wc.heap.size wc wr) (fun _ v36 _=>D.waits.length-(intOf v36).toNat)
     case atStart=>exact ⟨0,Nat.zero_le _,rfl,World.ownsRow_nil _ _ _ _,Below.refl _ _⟩
     case round =>
      obtain ⟨i,hin,rfl,ho,hb⟩:=hrel
      have HRO:=Lib.hid ho
      have HB:=Lib.hid hb
      clear ho hb
      by_cases hi2:i<D.waits.length
      ·obtain ⟨b4,o4,rfl,hb4,hcc⟩:=HCS.out.2 (by omega)
       obtain ⟨a0,a1,a2,a3⟩:=hcc i D.waits[i] (by simp [hi2])
       obtain ⟨wcl,wfl⟩:=bcell HB.out
       have d0:=(wcl b4 (o4+i*4) hb4).trans a0
       have d1:=(wcl b4 (o4+i*4+1) hb4).trans a1
       have d2:=(wcl b4 (o4+i*4+2) hb4).trans a2
       have d3:=(wcl b4 (o4+i*4+3) hb4).trans a3
       have zz:b4<wr.heap.size:=by have:=HB.out.size;omega
       have RY:=Lib.hid (restL_yes (ws:=D.waits) (f:=0) hi2)
       have RN:=Lib.hid (restL_no (ws:=D.waits) (f:=0) hi2)
       have RL:=Lib.hid (restL_len (D.waits.take i) 0)
       obtain ⟨x,hx⟩:∃ x,D.waits[i]=x:=⟨_,rfl⟩
       rw [hx] at d0 d1 d2 d3
       simp only [hx] at RY RN
       clear hcc a0 a1 a2 a3 wcl wfl hx
       have tl:(D.waits.take i).length≤1000000000:=by rw [List.length_take];omega
       by_cases hxf:x.file=0
       ·have RN2:=Lib.hid (RN.out hxf)
        have xe:((x.file:Int) != 0)=false:=by rw [bne_eq_false_iff_eq];omega
        clear RY RN
        go_wp2_with fail
        go_roundw
        case rel=>exact ⟨i+1,by omega,by simp,by rw [RN2.out];exact HRO.out.alloc _,HB.out.alloc HB.out.size _⟩
        case measure=>simp [intOf];omega
       ·have RY2:=Lib.hid (RY.out hxf)
        have xe:((x.file:Int) != 0)=true:=by rw [bne_iff_ne];omega
        have G1:=Lib.hid (show (restL (D.waits.take i) 0).length+1≤maxLen by have:=RL.out;unfold maxLen;omega)
        have G2:=Lib.hid (show ((restL (D.waits.take i) 0).length+1)*40≤140737488355328 by have:=RL.out;omega)
        clear RY RN
        go_wp2_with (at_builtin;(refine wpList_append_src _ rfl (.tmp 38) (.tmp 40) 134 134 rfl wc.heap.size 160 i1 _ 4 40 Tryz.underlying134 hi1 hz3 hz4 hz5 zeroCellsCh (by decide) _ (restL (D.waits.take i) 0).length _ rfl ((HRO.out.alloc _).alloc _) (.slice (some ⟨_,0,none⟩) 1 1) 1 x.cells rfl (Src.ofSlice _ Tryz.underlying134 ⟨_,0,none⟩ 1 1 x.cells rfl (World.news_of_block (heap_alloc_new2 _ _ _)) (chCells_one x)) G1.out G2.out (Nat.le_trans HB.out.size (by simp;omega)) ?_);intro v1 w6 hown1 hg1 _ hat1;have HO6:=Lib.hid hown1;have HB6:=Lib.hid ((((HB.out.alloc HB.out.size _).alloc (Nat.le_trans HB.out.size (by simp)) _).grown hg1 (Nat.le_trans HB.out.size (by simp;omega)) (fun k hk=>(HRO.out.lt k hk).1)));clear hown1 hg1 hat1)
        go_roundw
        case rel=>exact ⟨i+1,by omega,by simp,by rw [RY2.out,chCells_snoc,List.length_append];exact HO6.out,HB6.out⟩
        case measure=>simp [intOf];omega
      ·obtain rfl:i=D.waits.length:=by omega
       have HOr:=Lib.hid (HO.out.below HB.out)
       clear c0 c1 c2 c3 c4 c5 cf cz
       obtain ⟨c0,c1,c2,c3,c4,c5⟩:=HOr.out.has.cells6
       have cf:=HOr.out.has.frozen
       have cz:=HOr.out.has.lt
       obtain ⟨A6,k6,rfl,_⟩:=own_form HRO.out
       have ER:=Lib.hid (show restL (D.waits.take D.waits.length) 0=(D.syncT 0).waits by rw [List.take_length];rfl)
       rw [ER.out] at HRO ⊢
       go_wp2_with fail
       go_ret
       have hlow:∀ k,Value.ownBlock (.slice A6 (D.syncT 0).waits.length k6)=some k→wc.heap.size≤k:=fun k hk=>(HRO.out.lt k hk).1
       refine ⟨rfl,_, ?_,((HT2.out.trans (Turn.below _ HB.out)).swap 0 (r':=rowA (.slice A6 (D.syncT 0).waits.length k6) (D.syncT 0).waits) (fun k hk=>Nat.le_trans HT2.out.size (hlow k hk))).trans (Turn.set _ _ 2 _ _)⟩
       unfold RP
       exact ⟨_,rfl,((HOr.out.swap 0 (r':=rowA (.slice A6 (D.syncT 0).waits.length k6) (D.syncT 0).waits) rfl (own_mono0 HRO.out) (fun k hk h2=>by have h3:=hlow k hk;have h4:=HO.out.lt h2;omega)).set 2 _)⟩
   ·rw [show ((1:Nat):Int)=1 from rfl] at R TS ⊢
    go_enter Tryz.func152,Tryz.ntmps152
    go_upto_region 6 with (first | (go_at_call 63;(with_reducible refine (R.out _).mono ?_);rintro e w1 ⟨rfl,rfl⟩) | (go_at_call 202;(with_reducible refine (T.out _ HH.out).mono ?_);rintro e w1 ⟨rfl,b1,hd1,ht1⟩))
    have HDT:=Lib.hid hd1
    have HD1:=Lib.hid (show RPx w1 b1 r D.l0 D.l1 D.waits D.turn.fails D.turn.down D.turn.count by
     have h2:=hd1
     rw [ET.out] at h2 ⊢
     exact h2)
    have HT1:=Lib.hid ht1
    clear hd1 ht1
    go_cut [2] (fun s2 wx=>∃ b2,RPx wx b2 r D.l0 (D.seen 1) D.waits D.turn.fails D.turn.down D.turn.count∧Turn b b2 w wx)
    case first =>
     obtain ⟨vw,rfl,hO⟩:=HD1.out
     have HO:=Lib.hid hO
     obtain ⟨c0,c1,c2,c3,c4,c5⟩:=hO.has.cells6
     have cf:=hO.has.frozen
     have cz:=hO.has.lt
     clear hO
     obtain ⟨S,hS⟩:∃ S,bsOf (D.seen 1)=S:=⟨_,rfl⟩
     rw [hS] at TS
     have HS:=Lib.hid hS
     clear hS
     go_region_law
      (first | (go_simp;go_at_call 93;(with_reducible refine (TS.out _ _ (HDT.out.below (Below.refl _ _).drew)).mono ?_);rintro e w5 ⟨rfl,hb5⟩;have HR:=Lib.hid ((HO.out.below (Below.refl _ _).drew).below hb5);have HB5:=Lib.hid hb5;have gf5:=HR.out.has.frozen;have gc5:=HR.out.has.cells6;obtain ⟨g0,g1,g2,g3,g4,g5⟩:=gc5;have gz5:=HR.out.has.lt))
     all_goals
      go_wp2_with fail
      go_meet
      rw [← HS.out]
      exact ⟨_,⟨_,rfl,HR.out.set 1 _⟩,HT1.out.trans ((Turn.below _ (Below.refl _ _).drew).trans ((Turn.below _ HB5.out).trans (Turn.set _ _ 1 _ _)))⟩
    case rest =>
     clear HD1 HT1 HDT TS
     obtain ⟨b2,hd2,ht2⟩:=hcut
     obtain ⟨v4,rfl,hO⟩:=hd2
     have HO:=Lib.hid hO
     have HT2:=Lib.hid ht2
     obtain ⟨A4,k4,rfl,hnc,hcs⟩:=CS.of_own (show wc.ownsRow 0 160 4 v4 D.waits.length (chCells D.waits) from hO.own 0 rfl)
     have HCS:=Lib.hid hcs
     obtain ⟨c0,c1,c2,c3,c4,c5⟩:=hO.has.cells6
     have cf:=hO.has.frozen
     have cz:=hO.has.lt
     clear hO ht2 hcs
     obtain ⟨i1,hi1,hz3,hz4,hz5⟩:=info_parts infoAct
     go_wp2_with fail
     go_loopw [6,30] (fun v6 v36 wr=>∃ i:Nat,i≤D.waits.length∧v36 = .int .i64 i∧wr.ownsRow wc.heap.size 160 4 v6 (restL (D.waits.take i) 1).length (chCells (restL (D.waits.take i) 1))∧Below wc.heap.size wc wr) (fun _ v36 _=>D.waits.length-(intOf v36).toNat)
     case atStart=>exact ⟨0,Nat.zero_le _,rfl,World.ownsRow_nil _ _ _ _,Below.refl _ _⟩
     case round =>
      obtain ⟨i,hin,rfl,ho,hb⟩:=hrel
      have HRO:=Lib.hid ho
      have HB:=Lib.hid hb
      clear ho hb
      by_cases hi2:i<D.waits.length
      ·obtain ⟨b4,o4,rfl,hb4,hcc⟩:=HCS.out.2 (by omega)
       obtain ⟨a0,a1,a2,a3⟩:=hcc i D.waits[i] (by simp [hi2])
       obtain ⟨wcl,wfl⟩:=bcell HB.out
       have d0:=(wcl b4 (o4+i*4) hb4).trans a0
       have d1:=(wcl b4 (o4+i*4+1) hb4).trans a1
       have d2:=(wcl b4 (o4+i*4+2) hb4).trans a2
       have d3:=(wcl b4 (o4+i*4+3) hb4).trans a3
       have zz:b4<wr.heap.size:=by have:=HB.out.size;omega
       have RY:=Lib.hid (restL_yes (ws:=D.waits) (f:=1) hi2)
       have RN:=Lib.hid (restL_no (ws:=D.waits) (f:=1) hi2)
       have RL:=Lib.hid (restL_len (D.waits.take i) 1)
       obtain ⟨x,hx⟩:∃ x,D.waits[i]=x:=⟨_,rfl⟩
       rw [hx] at d0 d1 d2 d3
       simp only [hx] at RY RN
       clear hcc a0 a1 a2 a3 wcl wfl hx
       have tl:(D.waits.take i).length≤1000000000:=by rw [List.length_take];omega
       by_cases hxf:x.file=1
       ·have RN2:=Lib.hid (RN.out hxf)
        have xe:((x.file:Int) != 1)=false:=by rw [bne_eq_false_iff_eq];omega
        clear RY RN
        go_wp2_with fail
        go_roundw
        case rel=>exact ⟨i+1,by omega,by simp,by rw [RN2.out];exact HRO.out.alloc _,HB.out.alloc HB.out.size _⟩
        case measure=>simp [intOf];omega
       ·have RY2:=Lib.hid (RY.out hxf)
        have xe:((x.file:Int) != 1)=true:=by rw [bne_iff_ne];omega
        have G1:=Lib.hid (show (restL (D.waits.take i) 1).length+1≤maxLen by have:=RL.out;unfold maxLen;omega)
        have G2:=Lib.hid (show ((restL (D.waits.take i) 1).length+1)*40≤140737488355328 by have:=RL.out;omega)
        clear RY RN
        go_wp2_with (at_builtin;(refine wpList_append_src _ rfl (.tmp 38) (.tmp 40) 134 134 rfl wc.heap.size 160 i1 _ 4 40 Tryz.underlying134 hi1 hz3 hz4 hz5 zeroCellsCh (by decide) _ (restL (D.waits.take i) 1).length _ rfl ((HRO.out.alloc _).alloc _) (.slice (some ⟨_,0,none⟩) 1 1) 1 x.cells rfl (Src.ofSlice _ Tryz.underlying134 ⟨_,0,none⟩ 1 1 x.cells rfl (World.news_of_block (heap_alloc_new2 _ _ _)) (chCells_one x)) G1.out G2.out (Nat.le_trans HB.out.size (by simp;omega)) ?_);intro v1 w6 hown1 hg1 _ hat1;have HO6:=Lib.hid hown1;have HB6:=Lib.hid ((((HB.out.alloc HB.out.size _).alloc (Nat.le_trans HB.out.size (by simp)) _).grown hg1 (Nat.le_trans HB.out.size (by simp;omega)) (fun k hk=>(HRO.out.lt k hk).1)));clear hown1 hg1 hat1)
        go_roundw
        case rel=>exact ⟨i+1,by omega,by simp,by rw [RY2.out,chCells_snoc,List.length_append];exact HO6.out,HB6.out⟩
        case measure=>simp [intOf];omega
      ·obtain rfl:i=D.waits.length:=by omega
       have HOr:=Lib.hid (HO.out.below HB.out)
       clear c0 c1 c2 c3 c4 c5 cf cz
       obtain ⟨c0,c1,c2,c3,c4,c5⟩:=HOr.out.has.cells6
       have cf:=HOr.out.has.frozen
       have cz:=HOr.out.has.lt
       obtain ⟨A6,k6,rfl,_⟩:=own_form HRO.out
       have ER:=Lib.hid (show restL (D.waits.take D.waits.length) 1=(D.syncT 1).waits by rw [List.take_length];rfl)
       rw [ER.out] at HRO ⊢
       go_wp2_with fail
       go_ret
       have hlow:∀ k,Value.ownBlock (.slice A6 (D.syncT 1).waits.length k6)=some k→wc.heap.size≤k:=fun k hk=>(HRO.out.lt k hk).1
       refine ⟨rfl,_, ?_,((HT2.out.trans (Turn.below _ HB.out)).swap 0 (r':=rowA (.slice A6 (D.syncT 1).waits.length k6) (D.syncT 1).waits) (fun k hk=>Nat.le_trans HT2.out.size (hlow k hk))).trans (Turn.set _ _ 2 _ _)⟩
       unfold RP
       exact ⟨_,rfl,((HOr.out.swap 0 (r':=rowA (.slice A6 (D.syncT 1).waits.length k6) (D.syncT 1).waits) rfl (own_mono0 HRO.out) (fun k hk h2=>by have h3:=hlow k hk;have h4:=HO.out.lt h2;omega)).set 2 _)⟩
 ·rw [inB_no (by omega)] at R
  have E:=Lib.hid (show D.sync f=D∧D.syncE f=1 from ⟨if_neg hf,if_neg hf⟩)
  rw [E.out.1,E.out.2]
  clear hf h
  go_enter Tryz.func152,Tryz.ntmps152
  go_wp2_with (go_at_call 63;(with_reducible refine (R.out _).mono ?_);rintro e w1 ⟨rfl,rfl⟩)
  go_ret
  exact RPost.refl HH.out
end Go.Proofs.YtjihboddejaelaaGreat
