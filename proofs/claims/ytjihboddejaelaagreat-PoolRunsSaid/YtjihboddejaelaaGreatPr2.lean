/-
  The methods of disk.Disk (2): change, Write, Cut.
-/
import Derived.Test.YtjihboddejaelaaGreatPr1
import Derived.Deep.RegionLaw
import Derived.Deep.AppendLies
import Derived.Deep.DeepCutAuto
set_option linter.unusedVariables false
set_option linter.unusedSimpArgs false
namespace Go.Proofs.YtjihboddejaelaaGreat
open Go.RowKit
open Go.BigFrame
theorem step_append_src {P:Program} {ops:Array Oper} {o:Oper} {a:Act} {w:World} {K:Act→World→Prop} {Q:Exit→Act→World→Prop} {E:Prop} (hgd:o.guard=none) (s x:Operand) (t tx:TypeId)
 (ho:o.op = .call { callee:=.builtin .append,args:=#[s,x],argTypes:=#[t,tx] })
 (base:Nat) (e:TypeId) (i:TypeInfo) (z:Value) (size bytes:Nat) (ht:P.underlying t=some (.slice e)) (hi:P.info? e=some i) (hz:i.zero=some z)
 (hsize:i.size=size) (hby:i.bytes=bytes) (hzs:z.cells.size=size) (hsz:0<size)
 (v:Value) (n:Nat) (xs:List Value) (hs:a.eval s=v) (hown:w.ownsRow base e size v n xs)
 (y:Value) (m:Nat) (news:List Value) (hx:a.eval x=y) (hsrc:Src P size tx y m news w)
 (h63:n+m≤maxLen) (hbytes:(n+m)*bytes≤140737488355328) (hbase:base≤w.heap.size)
 (h:∀ A c w',w'.ownsRow base e size (.slice A (n+m) c) (n+m) (xs++news)→w.grownBy w' v.ownBlock→(Value.ownBlock (.slice A (n+m) c)=v.ownBlock∨Value.ownBlock (.slice A (n+m) c)=some w.heap.size)→K (a.put o.dst (.slice A (n+m) c)) w') :
 if Region.wanted o (yielded ops a.tmps)=true then Oper.wp P o a w K Q else E:=by
 have hw:Region.wanted o (yielded ops a.tmps)=true:=by simp [Region.wanted,hgd]
 rw [if_pos hw]
 refine wp_append_src w s x t tx ho base e i z size bytes ht hi hz hsize hby hzs hsz v n xs hs hown y m news hx hsrc h63 hbytes hbase fun v' w' h1 h2 _ h4=>?_
 obtain ⟨A,c,rfl,_⟩:=own_form h1
 exact h A c w' h1 h2 h4
theorem infoCh:(Tryz.prog.info? 156).map (fun i=>(i.zero,i.size,i.bytes))=some (some (.agg #[.int .i64 0,.int .i64 0,.string ⟨#[]⟩,.bool false]),4,40):=by kernel_rfl
theorem zeroCellsCh:(Value.agg #[.int .i64 0,.int .i64 0,.string ⟨#[]⟩,.bool false]).cells.size=4:=by kernel_rfl
theorem Has.cells4 {w:World} {g:Nat} {t:TypeId} {a0 a1 a2 a3:Value} (h:Has w g t #[a0,a1,a2,a3]):w.cell? ⟨g,0,none⟩=some a0∧w.cell? ⟨g,1,none⟩=some a1∧w.cell? ⟨g,2,none⟩=some a2∧w.cell? ⟨g,3,none⟩=some a3 :=
 ⟨h.cell 0,h.cell 1,h.cell 2,h.cell 3⟩
theorem chCells_snoc (ws:List Ch) (c:Ch):chCells (ws++[c])=chCells ws++c.cells:=by simp [chCells]
theorem DPx.has {w:World} {b:List (Option Nat)} {g:Nat} {l0 s0 l1 s1:List UInt8} {ws:List Ch} {fs:Int} {dn:Bool} {ct:Nat} (h:DPx w b g l0 s0 l1 s1 ws fs dn ct):some g∈b:=by
 obtain ⟨v0,v1,v2,v3,v4,rfl,hO⟩:=h
 exact List.mem_cons_self ..
theorem DPx.lt {w:World} {b:List (Option Nat)} {g:Nat} {l0 s0 l1 s1:List UInt8} {ws:List Ch} {fs:Int} {dn:Bool} {ct:Nat} (h:DPx w b g l0 s0 l1 s1 ws fs dn ct) {k:Nat} (hk:some k∈b):k<w.heap.size:=by
 obtain ⟨v0,v1,v2,v3,v4,rfl,h2⟩:=h
 exact h2.lt hk
theorem DPx.below {w w':World} {b:List (Option Nat)} {g:Nat} {l0 s0 l1 s1:List UInt8} {ws:List Ch} {fs:Int} {dn:Bool} {ct:Nat} (h:DPx w b g l0 s0 l1 s1 ws fs dn ct) (hb:Below w.heap.size w w'):DPx w' b g l0 s0 l1 s1 ws fs dn ct:=by
 obtain ⟨v0,v1,v2,v3,v4,h1,h2⟩:=h
 exact ⟨v0,v1,v2,v3,v4,h1,h2.below hb⟩
theorem Has.turn {w w':World} {b b':List (Option Nat)} {g:Nat} {t:TypeId} {cs:Array Value} (h:Has w g t cs) (ht:Turn b b' w w') (hn:some g∉b):Has w' g t cs:=(ht.block g h.lt hn).trans h
theorem Turn.not {w w':World} {b b':List (Option Nat)} (ht:Turn b b' w w') {k:Nat} (hk:k<w.heap.size) (hn:some k∉b):some k∉b':=fun h=>by
 rcases ht.new k h with h2 | h2
 ·exact hn h2
 ·omega
theorem chCells_one (c:Ch):∀ u∈c.cells,u.oneCell'=true:=fun u hu=>by
 simp only [Ch.cells,List.mem_cons,List.not_mem_nil,or_false] at hu
 rcases hu with rfl | rfl | rfl | rfl <;> rfl
theorem ob_app {w w':World} {g:Nat} {l0 s0 l1 s1:List UInt8} {ws:List Ch} {fs:Int} {dn:Bool} {ct:Nat} {v0 v1 v2 v3 v4 v':Value} {c:Ch} {o:Obj}
 (h:Ob w g 96 (dCells fs dn ct v0 v1 v2 v3 v4) (dRows l0 s0 l1 s1 ws v0 v1 v2 v3 v4))
 (hown:w'.ownsRow 0 156 4 v' (ws.length+1) (chCells ws++c.cells)) (hg:(w.drew.alloc o).grownBy w' v4.ownBlock) (hat:v'.ownBlock=v4.ownBlock∨v'.ownBlock=some (w.drew.alloc o).heap.size) :
 Ob w' g 96 (dCells fs dn ct v0 v1 v2 v3 v4) (dRows l0 s0 l1 s1 (ws++[c]) v0 v1 v2 v3 v')∧Turn (blks g (dRows l0 s0 l1 s1 ws v0 v1 v2 v3 v4)) (blks g (dRows l0 s0 l1 s1 (ws++[c]) v0 v1 v2 v3 v')) w w':=by
 have hb:Below w.heap.size w (w.drew.alloc o):=(Below.refl _ _).drew.alloc (Nat.le_refl _) _
 have:=(h.below hb).row 4 (r:=rowC v4 ws) (r':=rowC v' (ws++[c])) rfl hg (by
  show w'.ownsRow 0 156 4 v' (ws++[c]).length (chCells (ws++[c]))
  rw [chCells_snoc,List.length_append];exact hown) (hat.imp id fun e k hk=>by
   have hk2:v'.ownBlock=some k:=hk
   rw [e] at hk2;cases hk2;exact Nat.le_refl _)
 exact ⟨this.1,(Turn.below _ hb).trans this.2⟩
set_option maxRecDepth 100000 in
set_option maxHeartbeats 3200000 in
theorem disk_change (g:Nat) (D:Dk) (b:List (Option Nat)) (c:Ch) (w:World) (h:DP w b g D) (hok:D.ok) (hct:D.count≤4000000000000000000) (hws:D.waits.length≤1000000000) (hc:c.fits) :
 Calls Tryz.prog 214 #[.pointer (some ⟨g,0,none⟩),chVal c] w (DPost w b g (D.change c) (.int .i64 D.turnE)):=by
 obtain ⟨i0,hi,hz0,hz1,hz2⟩:=info_parts infoCh
 have HBX:=Lib.hid (Has.new w 156 #[.int .i64 c.file,.int .i64 c.at_,.string c.text,.bool c.cut])
 have HB0:=Lib.hid ((Below.refl w.heap.size w).alloc (Nat.le_refl _) (.cells #[.int .i64 c.file,.int .i64 c.at_,.string c.text,.bool c.cut] 156))
 have NB:=Lib.hid (show some w.heap.size∉b from fun h2=>by have:=h.lt h2;omega)
 have HH:=Lib.hid h
 have T:=Lib.hid (fun w1 (h1:DP w1 b g D)=>disk_turn g D b w1 h1 hok hct)
 have FIT:=Lib.hid hc
 have OK:=Lib.hid hok
 have hcf:c.file<2:=hc.1
 show Calls Tryz.prog 214 #[.pointer (some ⟨g,0,none⟩),.agg #[.int .i64 c.file,.int .i64 c.at_,.string c.text,.bool c.cut]] w _
 clear h hok hc hct
 by_cases hst:D.stops
 ·have E:=Lib.hid (show D.turnE=2∧D.change c=D.turn from ⟨if_pos hst,if_pos hst⟩)
  rw [E.out.2]
  rw [E.out.1] at T ⊢
  clear hst
  go_enter Tryz.func214,Tryz.ntmps214
  go_wp2_with (go_at_call 189;(with_reducible refine (T.out _ (HH.out.below HB0.out)).mono ?_);rintro e w1 ⟨rfl,b1,hd1,ht1⟩)
  go_ret
  exact ⟨rfl,b1,hd1,(Turn.below b HB0.out).trans ht1⟩
 ·have E:=Lib.hid (show D.turnE=0 from if_neg hst)
  have EC:=Lib.hid (show D.change c={ D.turn with waits:=D.waits++[c] } from if_neg hst)
  have ET:=Lib.hid (show D.turn={ D with fails:=if 0<D.fails then D.fails-1 else D.fails,count:=D.count+1 } from if_neg hst)
  have EW:=Lib.hid (fun k=>Dk.change_seen D c hst k)
  have EL:=Lib.hid (show (D.change c).l0=D.l0∧(D.change c).l1=D.l1∧(D.change c).waits=D.waits++[c]∧(D.change c).fails=D.turn.fails∧(D.change c).down=D.turn.down∧(D.change c).count=D.turn.count by rw [EC.out];refine ⟨?_, ?_,rfl,rfl,rfl,rfl⟩ <;> (rw [ET.out]))
  rw [E.out] at T ⊢
  clear hst
  go_enter Tryz.func214,Tryz.ntmps214
  go_upto_region 4 with (go_at_call 189;(with_reducible refine (T.out _ (HH.out.below HB0.out)).mono ?_);rintro e w1 ⟨rfl,b1,hd1,ht1⟩)
  have HD1:=Lib.hid (show DPx w1 b1 g D.l0 (D.seen 0) D.l1 (D.seen 1) D.waits D.turn.fails D.turn.down D.turn.count by
   have h2:=hd1
   rw [ET.out] at h2 ⊢
   exact h2)
  have HT1:=Lib.hid ((Turn.below b HB0.out).trans ht1)
  have HX1:=Lib.hid (HBX.out.turn ht1 NB.out)
  have NB1:=Lib.hid (ht1.not (by simp) NB.out)
  clear hd1 ht1
  go_cut [3] (fun s3 wx=>s3 = .pointer (some ⟨w.heap.size,0,none⟩)∧∃ b2,DPx wx b2 g D.l0 (D.seen 0) D.l1 (D.seen 1) (D.waits++[c]) D.turn.fails D.turn.down D.turn.count∧Turn b b2 w wx∧Has wx w.heap.size 156 #[.int .i64 c.file,.int .i64 c.at_,.string c.text,.bool c.cut]∧some w.heap.size∉b2)
  case first =>
   obtain ⟨v0,v1,v2,v3,v4,rfl,hO⟩:=HD1.out
   have HO:=Lib.hid hO
   obtain ⟨c0,c1,c2,c3,c4,c5,c6,c7⟩:=hO.has.cells8
   have cf:=hO.has.frozen
   have cz:=hO.has.lt
   obtain ⟨x0,x1,x2,x3⟩:=HX1.out.cells4
   have xz:=HX1.out.lt
   clear hO
   have G1:=Lib.hid (show D.waits.length+1≤maxLen by unfold maxLen;omega)
   have G2:=Lib.hid (show (D.waits.length+1)*40≤140737488355328 by omega)
   go_region_law
    (refine step_append_src (by rfl) _ _ _ _ (by rfl) 0 156 i0 _ 4 40 Tryz.underlying94 hi hz0 hz1 hz2 zeroCellsCh (by omega) v4 D.waits.length (chCells D.waits) (by rfl) ((HO.out.own 4 rfl).drew.alloc _) _ 1 c.cells (by rfl) (Src.ofSlice _ Tryz.underlying94 ⟨_,0,none⟩ 1 1 c.cells rfl (World.news_of_block (heap_alloc_new _ _)) (chCells_one c)) G1.out G2.out (Nat.zero_le _) ?_;intro A5 k5 w5 hown5 hgrow hat;have HR:=Lib.hid (ob_app HO.out hown5 hgrow hat);have gf5:=HR.out.1.has.frozen;have gc5:=HR.out.1.has.cells8.2.2.2.2.1;have gz5:=HR.out.1.has.lt)
   all_goals
    go_wp2_with fail
    go_meet
    have nb5:=HR.out.2.not HX1.out.lt NB1.out
    refine ⟨rfl,_,⟨v0,v1,v2,v3,_,rfl,HR.out.1.set 4 _⟩,HT1.out.trans (HR.out.2.trans (Turn.set _ _ _ _ _)),(HX1.out.turn HR.out.2 NB1.out).turn (Turn.set g _ 4 _ w5) nb5,nb5⟩
  case rest =>
   clear HD1 HT1 HX1 NB1
   obtain ⟨rfl,b2,hd2,ht2,hx2,nb2⟩:=hcut
   obtain ⟨v0,v1,v2,v3,v4,rfl,hO⟩:=hd2
   have HO:=Lib.hid hO
   have HT2:=Lib.hid ht2
   have HX2:=Lib.hid hx2
   have NB2:=Lib.hid nb2
   have cz:=hO.has.lt
   obtain ⟨x0,x1,x2,x3⟩:=hx2.cells4
   have xz:=hx2.lt
   clear hO ht2 hx2 nb2
   have OKS:=Lib.hid (OK.out.seen)
   rcases (show c.file=0∨c.file=1 by omega) with hf | hf
   ·have xf:(c.file:Int)=0:=by omega
    have EW0:=Lib.hid (show (D.change c).seen 0=c.done (D.seen 0) by rw [EW.out,if_pos hf])
    have EW1:=Lib.hid (show (D.change c).seen 1=D.seen 1 by rw [EW.out,if_neg (by omega)])
    have HF:=Lib.hid hf
    clear hf
    go_wp2_with fail
    refine wp_region_cls (wc) (by kernel_rfl) (by kernel_rfl) (Cls.start _) ?_
    repeat
     first
      | go_big_quiet_skip
      | (go_big_quiet_want;(first | go_big_quiet_op | go_simp);first | go_big_quiet_on | (apply Exists.intro;refine ⟨fun w' hw'=>?_, ?_⟩;(·(first | (with_reducible exact rfl) | (fail) | (obtain ⟨hc,hf⟩:=hw'.facts;go_simp;first | done | (with_reducible exact rfl) | (with_reducible exact ⟨rfl,rfl⟩))));go_big_quiet_on))
    refine wpQuiet_nil ?_
    intro wq hq
    have HQ:=Lib.hid hq
    have HO2:=Lib.hid (HO.out.below hq)
    have HX3:=Lib.hid (HX2.out.belowS hq)
    clear hq x0 x1 x2 x3 xz cz
    obtain ⟨x0,x1,x2,x3⟩:=HX3.out.cells4
    have xz:=HX3.out.lt
    obtain ⟨c0,c1,c2,c3,c4,c5,c6,c7⟩:=HO2.out.has.cells8
    have cf:=HO2.out.has.frozen
    have cz:=HO2.out.has.lt
    go_wp2_with fail
    have T2:=Lib.hid (fun w1 h1=>disk_done c v1 (D.seen 0) w1 h1 (OKS.out 0) FIT.out)
    unfold chVal at T2
    rw [xf] at T2
    go_region_law
     (first | (go_simp;go_at_call 87;(with_reducible refine (T2.out _ ((HO2.out.own 1 rfl).drew)).mono ?_);rintro e w5 ⟨v',rfl,hown5,hr5⟩;obtain ⟨A5,k5,rfl,_⟩:=own_form hown5;have HR:=Lib.hid ((HO2.out.below (Below.refl _ _).drew).row 1 (r:=rowB v1 (D.seen 0)) (r':=rowB _ (c.done (D.seen 0))) rfl hr5.grown hown5 hr5.at_);have gf5:=HR.out.1.has.frozen;have gc5:=HR.out.1.has.cells8;obtain ⟨g0,g1,g2,g3,g4,g5,g6,g7⟩:=gc5;have gz5:=HR.out.1.has.lt))
    all_goals
     go_wp2_with fail
     go_ret
     refine ⟨rfl,_, ?_,HT2.out.trans ((Turn.below _ HQ.out).trans ((Turn.below _ (Below.refl _ _).drew).trans (HR.out.2.trans (Turn.set _ _ 1 _ _))))⟩
     unfold DP
     rw [EW0.out,EW1.out,EL.out.1,EL.out.2.1,EL.out.2.2.1,EL.out.2.2.2.1,EL.out.2.2.2.2.1,EL.out.2.2.2.2.2]
     exact ⟨_,_,_,_,_,rfl,HR.out.1.set 1 _⟩
   ·have xf:(c.file:Int)=1:=by omega
    have EW0:=Lib.hid (show (D.change c).seen 1=c.done (D.seen 1) by rw [EW.out,if_pos hf])
    have EW1:=Lib.hid (show (D.change c).seen 0=D.seen 0 by rw [EW.out,if_neg (by omega)])
    have HF:=Lib.hid hf
    clear hf
    go_wp2_with fail
    refine wp_region_cls (wc) (by kernel_rfl) (by kernel_rfl) (Cls.start _) ?_
    repeat
     first
      | go_big_quiet_skip
      | (go_big_quiet_want;(first | go_big_quiet_op | go_simp);first | go_big_quiet_on | (apply Exists.intro;refine ⟨fun w' hw'=>?_, ?_⟩;(·(first | (with_reducible exact rfl) | (fail) | (obtain ⟨hc,hf⟩:=hw'.facts;go_simp;first | done | (with_reducible exact rfl) | (with_reducible exact ⟨rfl,rfl⟩))));go_big_quiet_on))
    refine wpQuiet_nil ?_
    intro wq hq
    have HQ:=Lib.hid hq
    have HO2:=Lib.hid (HO.out.below hq)
    have HX3:=Lib.hid (HX2.out.belowS hq)
    clear hq x0 x1 x2 x3 xz cz
    obtain ⟨x0,x1,x2,x3⟩:=HX3.out.cells4
    have xz:=HX3.out.lt
    obtain ⟨c0,c1,c2,c3,c4,c5,c6,c7⟩:=HO2.out.has.cells8
    have cf:=HO2.out.has.frozen
    have cz:=HO2.out.has.lt
    go_wp2_with fail
    have T2:=Lib.hid (fun w1 h1=>disk_done c v3 (D.seen 1) w1 h1 (OKS.out 1) FIT.out)
    unfold chVal at T2
    rw [xf] at T2
    go_region_law
     (first | (go_simp;go_at_call 87;(with_reducible refine (T2.out _ ((HO2.out.own 3 rfl).drew)).mono ?_);rintro e w5 ⟨v',rfl,hown5,hr5⟩;obtain ⟨A5,k5,rfl,_⟩:=own_form hown5;have HR:=Lib.hid ((HO2.out.below (Below.refl _ _).drew).row 3 (r:=rowB v3 (D.seen 1)) (r':=rowB _ (c.done (D.seen 1))) rfl hr5.grown hown5 hr5.at_);have gf5:=HR.out.1.has.frozen;have gc5:=HR.out.1.has.cells8;obtain ⟨g0,g1,g2,g3,g4,g5,g6,g7⟩:=gc5;have gz5:=HR.out.1.has.lt))
    all_goals
     go_wp2_with fail
     go_ret
     refine ⟨rfl,_, ?_,HT2.out.trans ((Turn.below _ HQ.out).trans ((Turn.below _ (Below.refl _ _).drew).trans (HR.out.2.trans (Turn.set _ _ 3 _ _))))⟩
     unfold DP
     rw [EW0.out,EW1.out,EL.out.1,EL.out.2.1,EL.out.2.2.1,EL.out.2.2.2.1,EL.out.2.2.2.2.1,EL.out.2.2.2.2.2]
     exact ⟨_,_,_,_,_,rfl,HR.out.1.set 3 _⟩
theorem DPost.refl {w:World} {b:List (Option Nat)} {g:Nat} {D:Dk} {r:Value} (h:DP w b g D):DPost w b g D r (.returned r) w:=⟨rfl,b,h,Turn.refl _ _⟩
set_option maxRecDepth 100000 in
set_option maxHeartbeats 1600000 in
theorem disk_Write (g:Nat) (D:Dk) (b:List (Option Nat)) (f a:Int) (s:ByteArray) (w:World) (h:DP w b g D) (hok:D.ok) (hct:D.count≤4000000000000000000) (hws:D.waits.length≤1000000000) (hs:s.size≤9223372036854775807) :
 Calls Tryz.prog 172 #[.pointer (some ⟨g,0,none⟩),.int .i64 f,.int .i64 a,.string s] w (DPost w b g (D.write f a s) (.int .i64 (D.writeE f a s))):=by
 have R:=Lib.hid (fun w1=>disk_right f a s.size w1)
 have HH:=Lib.hid h
 by_cases hf:fitsF f a s.size
 ·rw [fitsB_yes hf] at R
  have T:=Lib.hid (fun w1 (h1:DP w1 b g D)=>disk_change g D b ⟨f.toNat,a.toNat,s,false⟩ w1 h1 hok hct hws ⟨by show f.toNat<2;have:=hf.1;have:=hf.2.1;omega,by show a.toNat≤_;have:=hf.2.2.2.2.1;omega,by show a.toNat+s.size≤_;obtain ⟨h1,h2,h3,h4,h5,h6⟩:=hf;omega,fun h=>by cases h⟩)
  have E:=Lib.hid (show D.write f a s=D.change ⟨f.toNat,a.toNat,s,false⟩∧D.writeE f a s=D.turnE from ⟨if_pos hf,if_pos hf⟩)
  rw [E.out.1,E.out.2]
  unfold chVal at T
  simp only at T
  rw [show ((f.toNat:Nat):Int)=f from Int.toNat_of_nonneg hf.1,show ((a.toNat:Nat):Int)=a from Int.toNat_of_nonneg hf.2.2.1] at T
  obtain ⟨x,hx⟩:∃ x,D.turnE=x:=⟨_,rfl⟩
  obtain ⟨D',hD'⟩:∃ x,D.change ⟨f.toNat,a.toNat,s,false⟩=x:=⟨_,rfl⟩
  rw [hx,hD'] at T ⊢
  clear hx hD' hok hct hws h hf
  go_enter Tryz.func172,Tryz.ntmps172
  go_wp2_with (first | (go_at_call 169;(with_reducible refine (R.out _).mono ?_);rintro e w1 ⟨rfl,rfl⟩) | (go_at_call 214;(with_reducible refine (T.out _ HH.out).mono ?_);rintro e w2 ⟨rfl,hp⟩))
  go_ret
  exact ⟨rfl,hp⟩
 ·rw [fitsB_no hf] at R
  have E:=Lib.hid (show D.write f a s=D∧D.writeE f a s=1 from ⟨if_neg hf,if_neg hf⟩)
  rw [E.out.1,E.out.2]
  clear hf h
  go_enter Tryz.func172,Tryz.ntmps172
  go_wp2_with (go_at_call 169;(with_reducible refine (R.out _).mono ?_);rintro e w1 ⟨rfl,rfl⟩)
  go_ret
  exact DPost.refl HH.out
set_option maxRecDepth 100000 in
set_option maxHeartbeats 1600000 in
theorem disk_Cut (g:Nat) (D:Dk) (b:List (Option Nat)) (f a:Int) (w:World) (h:DP w b g D) (hok:D.ok) (hct:D.count≤4000000000000000000) (hws:D.waits.length≤1000000000) :
 Calls Tryz.prog 175 #[.pointer (some ⟨g,0,none⟩),.int .i64 f,.int .i64 a] w (DPost w b g (D.cutD f a) (.int .i64 (D.cutE f a))):=by
 have R:=Lib.hid (fun w1=>disk_right f a 0 w1)
 have HH:=Lib.hid h
 by_cases hf:fitsF f a 0
 ·rw [fitsB_yes hf] at R
  have T:=Lib.hid (fun w1 (h1:DP w1 b g D)=>disk_change g D b ⟨f.toNat,a.toNat,⟨#[]⟩,true⟩ w1 h1 hok hct hws ⟨by show f.toNat<2;have:=hf.1;have:=hf.2.1;omega,by show a.toNat≤_;have:=hf.2.2.2.2.1;omega,by show a.toNat+0≤_;obtain ⟨h1,h2,h3,h4,h5,h6⟩:=hf;omega,fun _=>rfl⟩)
  have E:=Lib.hid (show D.cutD f a=D.change ⟨f.toNat,a.toNat,⟨#[]⟩,true⟩∧D.cutE f a=D.turnE from ⟨if_pos hf,if_pos hf⟩)
  rw [E.out.1,E.out.2]
  unfold chVal at T
  simp only at T
  rw [show ((f.toNat:Nat):Int)=f from Int.toNat_of_nonneg hf.1,show ((a.toNat:Nat):Int)=a from Int.toNat_of_nonneg hf.2.2.1] at T
  obtain ⟨x,hx⟩:∃ x,D.turnE=x:=⟨_,rfl⟩
  obtain ⟨D',hD'⟩:∃ x,D.change ⟨f.toNat,a.toNat,⟨#[]⟩,true⟩=x:=⟨_,rfl⟩
  rw [hx,hD'] at T ⊢
  clear hx hD' hok hct hws h hf
  go_enter Tryz.func175,Tryz.ntmps175
  go_wp2_with (first | (go_at_call 169;(with_reducible refine (R.out _).mono ?_);rintro e w1 ⟨rfl,rfl⟩) | (go_at_call 214;(with_reducible refine (T.out _ HH.out).mono ?_);rintro e w2 ⟨rfl,hp⟩))
  go_ret
  exact ⟨rfl,hp⟩
 ·rw [fitsB_no hf] at R
  have E:=Lib.hid (show D.cutD f a=D∧D.cutE f a=1 from ⟨if_neg hf,if_neg hf⟩)
  rw [E.out.1,E.out.2]
  clear hf h
  go_enter Tryz.func175,Tryz.ntmps175
  go_wp2_with (go_at_call 169;(with_reducible refine (R.out _).mono ?_);rintro e w1 ⟨rfl,rfl⟩)
  go_ret
  exact DPost.refl HH.out
end Go.Proofs.YtjihboddejaelaaGreat
namespace Go.Proofs.YtjihboddejaelaaGreat
open Go.RowKit
open Go.BigFrame
def CS (w:World) (A:Option Addr) (n:Nat) (ws:List Ch):Prop :=
 ws.length=n∧(0<n→∃ b off,A=some ⟨b,off,none⟩∧b<w.heap.size∧∀ i c,ws[i]? = some c →
  w.cell? ⟨b,off+i*4,none⟩=some (.int .i64 c.file)∧w.cell? ⟨b,off+i*4+1,none⟩=some (.int .i64 c.at_)∧w.cell? ⟨b,off+i*4+2,none⟩=some (.string c.text)∧w.cell? ⟨b,off+i*4+3,none⟩=some (.bool c.cut))
theorem CS.keep {w w':World} {A:Option Addr} {n:Nat} {ws:List Ch} (h:CS w A n ws) (hb:Below w.heap.size w w'):CS w' A n ws :=
 ⟨h.1,fun hn=>by
   obtain ⟨b,off,hA,hl,hc⟩:=h.2 hn
   refine ⟨b,off,hA,Nat.lt_of_lt_of_le hl hb.size,fun i v hv=>?_⟩
   obtain ⟨c0,c1,c2,c3⟩:=hc i v hv
   exact ⟨(hb.cell hl).trans c0,(hb.cell hl).trans c1,(hb.cell hl).trans c2,(hb.cell hl).trans c3⟩⟩
theorem chCells_length:∀ ws:List Ch,(chCells ws).length=ws.length*4
 | []=>rfl
 | c :: ws=>by
   have:=chCells_length ws
   simp only [chCells,List.flatMap_cons,List.length_append,List.length_cons] at this ⊢
   rw [this];simp only [Ch.cells,List.length_cons,List.length_nil];omega
theorem chCells_get:∀ (ws:List Ch) (j:Nat),(chCells ws)[j]? = ws[j / 4]?.bind fun v=>v.cells[j % 4]?
 | [],j=>by simp [chCells]
 | v :: ws,j=>by
   have hs:chCells (v :: ws)=v.cells++chCells ws:=by simp [chCells]
   rw [hs]
   by_cases h:j<4
   ·rw [List.getElem?_append_left (by simpa [Ch.cells] using h),Nat.div_eq_of_lt h,Nat.mod_eq_of_lt h]
    simp
   ·rw [List.getElem?_append_right (by simp [Ch.cells];omega),show v.cells.length=4 from rfl,chCells_get ws (j-4)]
    have e1:j / 4=(j-4) / 4+1:=by omega
    have e2:j % 4=(j-4) % 4:=by omega
    rw [e1,e2]
    simp
theorem CS.of_own {w:World} {b:Nat} {e:TypeId} {v:Value} {n:Nat} {ws:List Ch} (h:w.ownsRow b e 4 v n (chCells ws)):∃ A c,v = .slice A n c∧n≤c∧CS w A n ws:=by
 have hl:ws.length=n:=by have:=h.1;rw [chCells_length] at this;omega
 rcases h.2 with ⟨rfl,h0⟩ | ⟨g,cap,cur,rfl,hb,hg,hn,_⟩
 ·subst h0
  exact ⟨none,0,rfl,Nat.le_refl _,hl,fun h=>absurd h (by omega)⟩
 ·refine ⟨_,_,rfl,hn,hl,fun _=>⟨g,0,rfl,(Array.getElem?_eq_some_iff.1 hg).1,fun i c hc=>?_⟩⟩
  have gg:∀ r u,r<4→c.cells[r]? = some u→w.cell? ⟨g,0+(i*4+r),none⟩=some u:=fun r u hr hu=>by
   have:=h.cells (g:=g) rfl (i*4+r) u (by rw [chCells_get,show (i*4+r) / 4=i by omega,show (i*4+r) % 4=r by omega,hc];exact hu)
   rw [addr_add] at this;exact this
  refine ⟨gg 0 _ (by omega) rfl, ?_, ?_, ?_⟩
  ·have:=gg 1 _ (by omega) rfl;simpa [Nat.add_assoc] using this
  ·have:=gg 2 _ (by omega) rfl;simpa [Nat.add_assoc] using this
  ·have:=gg 3 _ (by omega) rfl;simpa [Nat.add_assoc] using this
theorem fresh_own {A:Option Addr} {n c n' c' m:Nat} (hat:Value.ownBlock (.slice A n c)=Value.ownBlock (.slice none 0 0)∨Value.ownBlock (.slice A n c)=some m):∀ k,Value.ownBlock (.slice A n' c')=some k→m≤k:=fun k hk=>by
 cases A with
 | none=>cases hk
 | some a =>
   rcases hat with e | e
   ·cases e
   ·have h2:some a.block=some k:=hk
    have h3:some a.block=some m:=e
    rw [h2] at h3;cases h3;exact Nat.le_refl _
theorem heap_alloc_new2 (w:World) (o o2:Obj):((w.alloc o).alloc o2).heap[w.heap.size+1]? = some o2:=by
 have:=heap_alloc_new (w.alloc o) o2
 rwa [World.size_alloc] at this
def restL (ws:List Ch) (f:Nat):List Ch:=ws.filter (fun c=>decide (c.file≠f))
theorem restL_yes {ws:List Ch} {i f:Nat} (hi:i<ws.length) (h:ws[i].file≠f):restL (ws.take (i+1)) f=restL (ws.take i) f++[ws[i]]:=by
 unfold restL
 rw [List.take_succ_eq_append_getElem hi,List.filter_append,List.filter_cons_of_pos (by simpa using h)];rfl
theorem restL_no {ws:List Ch} {i f:Nat} (hi:i<ws.length) (h:ws[i].file=f):restL (ws.take (i+1)) f=restL (ws.take i) f:=by
 unfold restL
 rw [List.take_succ_eq_append_getElem hi,List.filter_append,List.filter_cons_of_neg (by simpa using h)];simp
theorem restL_len (ws:List Ch) (f:Nat):(restL ws f).length≤ws.length:=List.length_filter_le _ _
set_option maxRecDepth 100000 in
set_option maxHeartbeats 3200000 in
theorem disk_Sync (g:Nat) (D:Dk) (b:List (Option Nat)) (f:Int) (w:World) (h:DP w b g D) (hok:D.ok) (hct:D.count≤4000000000000000000) (hws:D.waits.length≤1000000000) :
 Calls Tryz.prog 119 #[.pointer (some ⟨g,0,none⟩),.int .i64 f] w (DPost w b g (D.sync f) (.int .i64 (D.syncE f))):=by
 obtain ⟨i0,hi,hz0,hz1,hz2⟩:=info_parts infoByte
 have R:=Lib.hid (fun w1=>disk_right f 0 0 w1)
 have HH:=Lib.hid h
 have T:=Lib.hid (fun w1 (h1:DP w1 b g D)=>disk_turn g D b w1 h1 hok hct)
 have OK:=Lib.hid hok
 by_cases hf:0≤f∧f<2
 ·rw [fitsB_yes ⟨hf.1,hf.2,by omega,by omega,by omega,by omega⟩] at R
  obtain ⟨F,rfl⟩:∃ F:Nat,f=F:=⟨f.toNat,by omega⟩
  obtain ⟨hf1,hf2⟩:=hf
  by_cases hst:D.stops
  ·have E:=Lib.hid (show D.turnE=2∧D.sync F=D.turn∧D.syncE F=2 from ⟨if_pos hst,by unfold Dk.sync;rw [if_pos ⟨hf1,hf2⟩,if_pos hst],by unfold Dk.syncE;rw [if_pos ⟨hf1,hf2⟩];exact if_pos hst⟩)
   rw [E.out.2.1,E.out.2.2]
   rw [E.out.1] at T
   clear hst h hok hct
   go_enter Tryz.func119,Tryz.ntmps119
   go_wp2_with (first | (go_at_call 169;(with_reducible refine (R.out _).mono ?_);rintro e w1 ⟨rfl,rfl⟩) | (go_at_call 189;(with_reducible refine (T.out _ HH.out).mono ?_);rintro e w2 ⟨rfl,hp⟩))
   go_ret
   exact ⟨rfl,hp⟩
  ·have E:=Lib.hid (show D.turnE=0∧D.syncE F=0 from ⟨if_neg hst,by unfold Dk.syncE;rw [if_pos ⟨hf1,hf2⟩];exact if_neg hst⟩)
   have ES:=Lib.hid (show D.sync F=D.syncT F by unfold Dk.sync;rw [if_pos ⟨hf1,hf2⟩,if_neg hst];rfl)
   have ET:=Lib.hid (show D.turn={ D with fails:=if 0<D.fails then D.fails-1 else D.fails,count:=D.count+1 } from if_neg hst)
   have EV:=Lib.hid (fun k=>Dk.syncT_seen D F k (by omega))
   have LS:=Lib.hid (hok.seen)
   rw [E.out.2,ES.out]
   rw [E.out.1] at T
   clear hst h hok hct
   rcases (show F=0∨F=1 by omega) with rfl | rfl
   ·rw [show ((0:Nat):Int)=0 from rfl] at R ⊢
    go_enter Tryz.func119,Tryz.ntmps119
    go_upto_region 6 with (first | (go_at_call 169;(with_reducible refine (R.out _).mono ?_);rintro e w1 ⟨rfl,rfl⟩) | (go_at_call 189;(with_reducible refine (T.out _ HH.out).mono ?_);rintro e w1 ⟨rfl,b1,hd1,ht1⟩))
    have HD1:=Lib.hid (show DPx w1 b1 g D.l0 (D.seen 0) D.l1 (D.seen 1) D.waits D.turn.fails D.turn.down D.turn.count by
     have h2:=hd1
     rw [ET.out] at h2 ⊢
     exact h2)
    have HT1:=Lib.hid ht1
    clear hd1 ht1
    go_cut [2] (fun s2 wx=>∃ b2,DPx wx b2 g (D.seen 0) (D.seen 0) D.l1 (D.seen 1) D.waits D.turn.fails D.turn.down D.turn.count∧Turn b b2 w wx)
    case first =>
     obtain ⟨v0,v1,v2,v3,v4,rfl,hO⟩:=HD1.out
     have HO:=Lib.hid hO
     obtain ⟨c0,c1,c2,c3,c4,c5,c6,c7⟩:=hO.has.cells8
     have cf:=hO.has.frozen
     have cz:=hO.has.lt
     obtain ⟨As,cs,hvs,_,hbs⟩:=BS.of_own (l:=D.seen 0) (hO.own 1 rfl)
     rw [show v1 = .slice As (D.seen 0).length cs from hvs] at c1
     have HBS:=Lib.hid hbs
     clear hO hvs hbs
     have G1:=Lib.hid (show 0+(D.seen 0).length≤maxLen by have:=LS.out 0;unfold maxLen;omega)
     have G2:=Lib.hid (show (0+(D.seen 0).length)*1≤140737488355328 by have:=LS.out 0;omega)
     go_region_law
      (refine step_append_src (by rfl) _ _ _ _ (by rfl) 0 5 i0 _ 1 1 Tryz.underlying39 hi hz0 hz1 hz2 zeroByte1 (by omega) (.slice none 0 0) 0 [] (by rfl) (World.ownsRow_nil _ _ _ _) _ (D.seen 0).length (u8s (D.seen 0)) (by rfl) ((HBS.out.keep (Below.refl _ _).drew).src Tryz.underlying39) G1.out G2.out (Nat.zero_le _) ?_;intro A5 k5 w5 hown5 hgrow hat;have HR:=Lib.hid ((HO.out.below (Below.refl _ _).drew).row 0 (r:=rowB v0 D.l0) (r':=rowB (.slice A5 (D.seen 0).length k5) (D.seen 0)) rfl (grownBy_weak hgrow) (by have h9:=hown5;rw [Nat.zero_add] at h9;exact h9) (.inr (fresh_own hat)));have gf5:=HR.out.1.has.frozen;have gc5:=HR.out.1.has.cells8;obtain ⟨g0,g1,g2,g3,g4,g5,g6,g7⟩:=gc5;have gz5:=HR.out.1.has.lt)
     all_goals
      go_wp2_with fail
      go_meet
      exact ⟨_,⟨_,_,_,_,_,rfl,HR.out.1.set 0 _⟩,HT1.out.trans ((Turn.below _ (Below.refl _ _).drew).trans (HR.out.2.trans (Turn.set _ _ 0 _ _)))⟩
    case rest =>
     clear HD1 HT1
     obtain ⟨b2,hd2,ht2⟩:=hcut
     obtain ⟨v0,v1,v2,v3,v4,rfl,hO⟩:=hd2
     have HO:=Lib.hid hO
     have HT2:=Lib.hid ht2
     obtain ⟨A4,k4,rfl,hnc,hcs⟩:=CS.of_own (show wc.ownsRow 0 156 4 v4 D.waits.length (chCells D.waits) from hO.own 4 rfl)
     have HCS:=Lib.hid hcs
     obtain ⟨c0,c1,c2,c3,c4,c5,c6,c7⟩:=hO.has.cells8
     have cf:=hO.has.frozen
     have cz:=hO.has.lt
     clear hO ht2 hcs
     obtain ⟨i1,hi1,hz3,hz4,hz5⟩:=info_parts infoCh
     go_wp2_with fail
     go_loopw [6,36] (fun v6 v36 wr=>∃ i:Nat,i≤D.waits.length∧v36 = .int .i64 i∧wr.ownsRow wc.heap.size 156 4 v6 (restL (D.waits.take i) 0).length (chCells (restL (D.waits.take i) 0))∧Below wc.heap.size wc wr) (fun _ v36 _=>D.waits.length-(intOf v36).toNat)
     case atStart=>exact ⟨0,Nat.zero_le _,rfl,World.ownsRow_nil _ _ _ _,Below.refl _ _⟩
     case round =>
      obtain ⟨i,hin,rfl,ho,hb⟩:=hrel
      have HRO:=Lib.hid ho
      have HB:=Lib.hid hb
      clear ho hb
      by_cases hi2:i<D.waits.length
      ·obtain ⟨b4,o4,rfl,hb4,hcc⟩:=HCS.out.2 (by omega)
       obtain ⟨a0,a1,a2,a3⟩:=hcc i D.waits[i] (by simp [hi2])
       obtain ⟨wcl,wfl⟩:=bcell HB.out
       have d0:=(wcl b4 (o4+i*4) hb4).trans a0
       have d1:=(wcl b4 (o4+i*4+1) hb4).trans a1
       have d2:=(wcl b4 (o4+i*4+2) hb4).trans a2
       have d3:=(wcl b4 (o4+i*4+3) hb4).trans a3
       have zz:b4<wr.heap.size:=by have:=HB.out.size;omega
       have RY:=Lib.hid (restL_yes (ws:=D.waits) (f:=0) hi2)
       have RN:=Lib.hid (restL_no (ws:=D.waits) (f:=0) hi2)
       have RL:=Lib.hid (restL_len (D.waits.take i) 0)
       obtain ⟨x,hx⟩:∃ x,D.waits[i]=x:=⟨_,rfl⟩
       rw [hx] at d0 d1 d2 d3
       simp only [hx] at RY RN
       clear hcc a0 a1 a2 a3 wcl wfl hx
       have tl:(D.waits.take i).length≤1000000000:=by rw [List.length_take];omega
       by_cases hxf:x.file=0
       ·have RN2:=Lib.hid (RN.out hxf)
        have xe:((x.file:Int) != 0)=false:=by rw [bne_eq_false_iff_eq];omega
        clear RY RN
        go_wp2_with fail
        go_roundw
        case rel=>exact ⟨i+1,by omega,by simp,by rw [RN2.out];exact HRO.out.alloc _,HB.out.alloc HB.out.size _⟩
        case measure=>simp [intOf];omega
       ·have RY2:=Lib.hid (RY.out hxf)
        have xe:((x.file:Int) != 0)=true:=by rw [bne_iff_ne];omega
        have G1:=Lib.hid (show (restL (D.waits.take i) 0).length+1≤maxLen by have:=RL.out;unfold maxLen;omega)
        have G2:=Lib.hid (show ((restL (D.waits.take i) 0).length+1)*40≤140737488355328 by have:=RL.out;omega)
        clear RY RN
        go_wp2_with (at_builtin;(refine wpList_append_src _ rfl (.tmp 44) (.tmp 46) 94 94 rfl wc.heap.size 156 i1 _ 4 40 Tryz.underlying94 hi1 hz3 hz4 hz5 zeroCellsCh (by decide) _ (restL (D.waits.take i) 0).length _ rfl ((HRO.out.alloc _).alloc _) (.slice (some ⟨_,0,none⟩) 1 1) 1 x.cells rfl (Src.ofSlice _ Tryz.underlying94 ⟨_,0,none⟩ 1 1 x.cells rfl (World.news_of_block (heap_alloc_new2 _ _ _)) (chCells_one x)) G1.out G2.out (Nat.le_trans HB.out.size (by simp;omega)) ?_);intro v1 w6 hown1 hg1 _ hat1;have HO6:=Lib.hid hown1;have HB6:=Lib.hid ((((HB.out.alloc HB.out.size _).alloc (Nat.le_trans HB.out.size (by simp)) _).grown hg1 (Nat.le_trans HB.out.size (by simp;omega)) (fun k hk=>(HRO.out.lt k hk).1)));clear hown1 hg1 hat1)
        go_roundw
        case rel=>exact ⟨i+1,by omega,by simp,by rw [RY2.out,chCells_snoc,List.length_append];exact HO6.out,HB6.out⟩
        case measure=>simp [intOf];omega
      ·obtain rfl:i=D.waits.length:=by omega
       have HOr:=Lib.hid (HO.out.below HB.out)
       clear c0 c1 c2 c3 c4 c5 c6 c7 cf cz
       obtain ⟨c0,c1,c2,c3,c4,c5,c6,c7⟩:=HOr.out.has.cells8
       have cf:=HOr.out.has.frozen
       have cz:=HOr.out.has.lt
       obtain ⟨A6,k6,rfl,_⟩:=own_form HRO.out
       have ER:=Lib.hid (show restL (D.waits.take D.waits.length) 0=(D.syncT 0).waits by rw [List.take_length];rfl)
       rw [ER.out] at HRO ⊢
       go_wp2_with fail
       go_ret
       have hlow:∀ k,Value.ownBlock (.slice A6 (D.syncT 0).waits.length k6)=some k→wc.heap.size≤k:=fun k hk=>(HRO.out.lt k hk).1
       refine ⟨rfl,_, ?_,((HT2.out.trans (Turn.below _ HB.out)).swap 4 (r':=rowC (.slice A6 (D.syncT 0).waits.length k6) (D.syncT 0).waits) (fun k hk=>Nat.le_trans HT2.out.size (hlow k hk))).trans (Turn.set _ _ 4 _ _)⟩
       unfold DP
       rw [EV.out 0 (by omega),EV.out 1 (by omega)]
       exact ⟨_,_,_,_,_,rfl,((HOr.out.swap 4 (r':=rowC (.slice A6 (D.syncT 0).waits.length k6) (D.syncT 0).waits) rfl (own_mono0 HRO.out) (fun k hk h2=>by have h3:=hlow k hk;have h4:=HO.out.lt h2;omega)).set 4 _)⟩
   ·rw [show ((1:Nat):Int)=1 from rfl] at R ⊢
    go_enter Tryz.func119,Tryz.ntmps119
    go_upto_region 6 with (first | (go_at_call 169;(with_reducible refine (R.out _).mono ?_);rintro e w1 ⟨rfl,rfl⟩) | (go_at_call 189;(with_reducible refine (T.out _ HH.out).mono ?_);rintro e w1 ⟨rfl,b1,hd1,ht1⟩))
    have HD1:=Lib.hid (show DPx w1 b1 g D.l0 (D.seen 0) D.l1 (D.seen 1) D.waits D.turn.fails D.turn.down D.turn.count by
     have h2:=hd1
     rw [ET.out] at h2 ⊢
     exact h2)
    have HT1:=Lib.hid ht1
    clear hd1 ht1
    go_cut [2] (fun s2 wx=>∃ b2,DPx wx b2 g D.l0 (D.seen 0) (D.seen 1) (D.seen 1) D.waits D.turn.fails D.turn.down D.turn.count∧Turn b b2 w wx)
    case first =>
     obtain ⟨v0,v1,v2,v3,v4,rfl,hO⟩:=HD1.out
     have HO:=Lib.hid hO
     obtain ⟨c0,c1,c2,c3,c4,c5,c6,c7⟩:=hO.has.cells8
     have cf:=hO.has.frozen
     have cz:=hO.has.lt
     obtain ⟨As,cs,hvs,_,hbs⟩:=BS.of_own (l:=D.seen 1) (hO.own 3 rfl)
     rw [show v3 = .slice As (D.seen 1).length cs from hvs] at c3
     have HBS:=Lib.hid hbs
     clear hO hvs hbs
     have G1:=Lib.hid (show 0+(D.seen 1).length≤maxLen by have:=LS.out 1;unfold maxLen;omega)
     have G2:=Lib.hid (show (0+(D.seen 1).length)*1≤140737488355328 by have:=LS.out 1;omega)
     go_region_law
      (refine step_append_src (by rfl) _ _ _ _ (by rfl) 0 5 i0 _ 1 1 Tryz.underlying39 hi hz0 hz1 hz2 zeroByte1 (by omega) (.slice none 0 0) 0 [] (by rfl) (World.ownsRow_nil _ _ _ _) _ (D.seen 1).length (u8s (D.seen 1)) (by rfl) ((HBS.out.keep (Below.refl _ _).drew).src Tryz.underlying39) G1.out G2.out (Nat.zero_le _) ?_;intro A5 k5 w5 hown5 hgrow hat;have HR:=Lib.hid ((HO.out.below (Below.refl _ _).drew).row 2 (r:=rowB v2 D.l1) (r':=rowB (.slice A5 (D.seen 1).length k5) (D.seen 1)) rfl (grownBy_weak hgrow) (by have h9:=hown5;rw [Nat.zero_add] at h9;exact h9) (.inr (fresh_own hat)));have gf5:=HR.out.1.has.frozen;have gc5:=HR.out.1.has.cells8;obtain ⟨g0,g1,g2,g3,g4,g5,g6,g7⟩:=gc5;have gz5:=HR.out.1.has.lt)
     all_goals
      go_wp2_with fail
      go_meet
      exact ⟨_,⟨_,_,_,_,_,rfl,HR.out.1.set 2 _⟩,HT1.out.trans ((Turn.below _ (Below.refl _ _).drew).trans (HR.out.2.trans (Turn.set _ _ 2 _ _)))⟩
    case rest =>
     clear HD1 HT1
     obtain ⟨b2,hd2,ht2⟩:=hcut
     obtain ⟨v0,v1,v2,v3,v4,rfl,hO⟩:=hd2
     have HO:=Lib.hid hO
     have HT2:=Lib.hid ht2
     obtain ⟨A4,k4,rfl,hnc,hcs⟩:=CS.of_own (show wc.ownsRow 0 156 4 v4 D.waits.length (chCells D.waits) from hO.own 4 rfl)
     have HCS:=Lib.hid hcs
     obtain ⟨c0,c1,c2,c3,c4,c5,c6,c7⟩:=hO.has.cells8
     have cf:=hO.has.frozen
     have cz:=hO.has.lt
     clear hO ht2 hcs
     obtain ⟨i1,hi1,hz3,hz4,hz5⟩:=info_parts infoCh
     go_wp2_with fail
     go_loopw [6,36] (fun v6 v36 wr=>∃ i:Nat,i≤D.waits.length∧v36 = .int .i64 i∧wr.ownsRow wc.heap.size 156 4 v6 (restL (D.waits.take i) 1).length (chCells (restL (D.waits.take i) 1))∧Below wc.heap.size wc wr) (fun _ v36 _=>D.waits.length-(intOf v36).toNat)
     case atStart=>exact ⟨0,Nat.zero_le _,rfl,World.ownsRow_nil _ _ _ _,Below.refl _ _⟩
     case round =>
      obtain ⟨i,hin,rfl,ho,hb⟩:=hrel
      have HRO:=Lib.hid ho
      have HB:=Lib.hid hb
      clear ho hb
      by_cases hi2:i<D.waits.length
      ·obtain ⟨b4,o4,rfl,hb4,hcc⟩:=HCS.out.2 (by omega)
       obtain ⟨a0,a1,a2,a3⟩:=hcc i D.waits[i] (by simp [hi2])
       obtain ⟨wcl,wfl⟩:=bcell HB.out
       have d0:=(wcl b4 (o4+i*4) hb4).trans a0
       have d1:=(wcl b4 (o4+i*4+1) hb4).trans a1
       have d2:=(wcl b4 (o4+i*4+2) hb4).trans a2
       have d3:=(wcl b4 (o4+i*4+3) hb4).trans a3
       have zz:b4<wr.heap.size:=by have:=HB.out.size;omega
       have RY:=Lib.hid (restL_yes (ws:=D.waits) (f:=1) hi2)
       have RN:=Lib.hid (restL_no (ws:=D.waits) (f:=1) hi2)
       have RL:=Lib.hid (restL_len (D.waits.take i) 1)
       obtain ⟨x,hx⟩:∃ x,D.waits[i]=x:=⟨_,rfl⟩
       rw [hx] at d0 d1 d2 d3
       simp only [hx] at RY RN
       clear hcc a0 a1 a2 a3 wcl wfl hx
       have tl:(D.waits.take i).length≤1000000000:=by rw [List.length_take];omega
       by_cases hxf:x.file=1
       ·have RN2:=Lib.hid (RN.out hxf)
        have xe:((x.file:Int) != 1)=false:=by rw [bne_eq_false_iff_eq];omega
        clear RY RN
        go_wp2_with fail
        go_roundw
        case rel=>exact ⟨i+1,by omega,by simp,by rw [RN2.out];exact HRO.out.alloc _,HB.out.alloc HB.out.size _⟩
        case measure=>simp [intOf];omega
       ·have RY2:=Lib.hid (RY.out hxf)
        have xe:((x.file:Int) != 1)=true:=by rw [bne_iff_ne];omega
        have G1:=Lib.hid (show (restL (D.waits.take i) 1).length+1≤maxLen by have:=RL.out;unfold maxLen;omega)
        have G2:=Lib.hid (show ((restL (D.waits.take i) 1).length+1)*40≤140737488355328 by have:=RL.out;omega)
        clear RY RN
        go_wp2_with (at_builtin;(refine wpList_append_src _ rfl (.tmp 44) (.tmp 46) 94 94 rfl wc.heap.size 156 i1 _ 4 40 Tryz.underlying94 hi1 hz3 hz4 hz5 zeroCellsCh (by decide) _ (restL (D.waits.take i) 1).length _ rfl ((HRO.out.alloc _).alloc _) (.slice (some ⟨_,0,none⟩) 1 1) 1 x.cells rfl (Src.ofSlice _ Tryz.underlying94 ⟨_,0,none⟩ 1 1 x.cells rfl (World.news_of_block (heap_alloc_new2 _ _ _)) (chCells_one x)) G1.out G2.out (Nat.le_trans HB.out.size (by simp;omega)) ?_);intro v1 w6 hown1 hg1 _ hat1;have HO6:=Lib.hid hown1;have HB6:=Lib.hid ((((HB.out.alloc HB.out.size _).alloc (Nat.le_trans HB.out.size (by simp)) _).grown hg1 (Nat.le_trans HB.out.size (by simp;omega)) (fun k hk=>(HRO.out.lt k hk).1)));clear hown1 hg1 hat1)
        go_roundw
        case rel=>exact ⟨i+1,by omega,by simp,by rw [RY2.out,chCells_snoc,List.length_append];exact HO6.out,HB6.out⟩
        case measure=>simp [intOf];omega
      ·obtain rfl:i=D.waits.length:=by omega
       have HOr:=Lib.hid (HO.out.below HB.out)
       clear c0 c1 c2 c3 c4 c5 c6 c7 cf cz
       obtain ⟨c0,c1,c2,c3,c4,c5,c6,c7⟩:=HOr.out.has.cells8
       have cf:=HOr.out.has.frozen
       have cz:=HOr.out.has.lt
       obtain ⟨A6,k6,rfl,_⟩:=own_form HRO.out
       have ER:=Lib.hid (show restL (D.waits.take D.waits.length) 1=(D.syncT 1).waits by rw [List.take_length];rfl)
       rw [ER.out] at HRO ⊢
       go_wp2_with fail
       go_ret
       have hlow:∀ k,Value.ownBlock (.slice A6 (D.syncT 1).waits.length k6)=some k→wc.heap.size≤k:=fun k hk=>(HRO.out.lt k hk).1
       refine ⟨rfl,_, ?_,((HT2.out.trans (Turn.below _ HB.out)).swap 4 (r':=rowC (.slice A6 (D.syncT 1).waits.length k6) (D.syncT 1).waits) (fun k hk=>Nat.le_trans HT2.out.size (hlow k hk))).trans (Turn.set _ _ 4 _ _)⟩
       unfold DP
       rw [EV.out 0 (by omega),EV.out 1 (by omega)]
       exact ⟨_,_,_,_,_,rfl,((HOr.out.swap 4 (r':=rowC (.slice A6 (D.syncT 1).waits.length k6) (D.syncT 1).waits) rfl (own_mono0 HRO.out) (fun k hk h2=>by have h3:=hlow k hk;have h4:=HO.out.lt h2;omega)).set 4 _)⟩
 ·rw [fitsB_no (fun h=>hf ⟨h.1,h.2.1⟩)] at R
  have E:=Lib.hid (show D.sync f=D∧D.syncE f=1 from ⟨if_neg hf,if_neg hf⟩)
  rw [E.out.1,E.out.2]
  clear hf h
  go_enter Tryz.func119,Tryz.ntmps119
  go_wp2_with (go_at_call 169;(with_reducible refine (R.out _).mono ?_);rintro e w1 ⟨rfl,rfl⟩)
  go_ret
  exact DPost.refl HH.out
end Go.Proofs.YtjihboddejaelaaGreat
namespace Go.Proofs.YtjihboddejaelaaGreat
open Go.RowKit
open Go.BigFrame
def IS (w:World) (A:Option Addr) (n:Nat) (ks:List Int):Prop :=
 ks.length=n∧(0<n→∃ b off,A=some ⟨b,off,none⟩∧b<w.heap.size∧∀ i k,ks[i]? = some k→w.cell? ⟨b,off+i,none⟩=some (.int .i64 k))
def blkOf (A:Option Addr):Option Nat:=A.map (·.block)
theorem IS.turn {w w':World} {A:Option Addr} {n:Nat} {ks:List Int} {b b':List (Option Nat)} (h:IS w A n ks) (ht:Turn b b' w w') (hn:0<n→∀ k,blkOf A=some k→some k∉b):IS w' A n ks :=
 ⟨h.1,fun h0=>by
   obtain ⟨k,off,rfl,hl,hc⟩:=h.2 h0
   refine ⟨k,off,rfl,Nat.lt_of_lt_of_le hl ht.size,fun i x hx=>?_⟩
   exact (World.cell?_of_block (ht.block k hl (hn h0 k rfl))).trans (hc i x hx)⟩
theorem IS.keep {w w':World} {A:Option Addr} {n:Nat} {ks:List Int} (h:IS w A n ks) (hb:Below w.heap.size w w'):IS w' A n ks:=h.turn (Turn.below [] hb) (fun _ _ _ h=>by cases h)
theorem crashL_snoc (keep:List Int) {ws:List Ch} {i:Nat} (hi:i<ws.length) (f:Nat) (l:List UInt8):crashL keep (ws.take (i+1)) 0 f l=crash1 ws[i] (howL keep i) (crashL keep (ws.take i) 0 f l) f:=by
 rw [List.take_succ_eq_append_getElem hi,crashL_append,List.length_take,Nat.min_eq_left (by omega),Nat.zero_add];rfl
theorem crash1_no {c:Ch} {how:Int} {l:List UInt8} {f:Nat} (h1:how≠1) (h2:how≠2):crash1 c how l f=l:=by
 unfold crash1;rw [if_neg h1,if_neg h2];split <;> rfl
theorem crash1_far {c:Ch} {how:Int} {l:List UInt8} {f:Nat} (h:c.file≠f):crash1 c how l f=l:=if_neg h
theorem crash1_one {c:Ch} {l:List UInt8} {f:Nat} (h:c.file=f):crash1 c 1 l f=c.done l:=by unfold crash1;rw [if_pos h,if_pos rfl]
theorem crash1_two {c:Ch} {l:List UInt8} {f:Nat} (h:c.file=f):crash1 c 2 l f=c.half.done l:=by unfold crash1;rw [if_pos h,if_neg (by omega),if_pos rfl]
theorem half_cut {c:Ch} (h:c.cut=true):c.half=c:=if_pos h
theorem half_text {c:Ch} (h:c.cut=false):c.half={ c with text:=c.text.extract 0 (c.text.size / 2),cut:=false }:=by
 unfold Ch.half;rw [if_neg (by rw [h];decide)];cases c;simp only at h;subst h;rfl
theorem below_mk (w:World) (o:Obj):Below w.heap.size w (w.alloc o):=(Below.refl _ _).alloc (Nat.le_refl _) _
theorem howL_none {keep:List Int} (h:keep.length=0) (i:Nat):howL keep i=0:=if_pos h
theorem howL_some {keep:List Int} {n:Nat} (h:keep.length=n) (hn:0<n) (i:Nat):howL keep i=keep.getD (i % n) 0:=by
 unfold howL;rw [h,if_neg (by omega)]
set_option maxRecDepth 100000 in
set_option maxHeartbeats 6400000 in
theorem disk_Crash (g:Nat) (D:Dk) (b:List (Option Nat)) (A:Option Addr) (n c:Nat) (ks:List Int) (w:World) (h:DP w b g D) (hok:D.ok) (hws:D.waits.length≤1000000000) (hK:IS w A n ks) (hn:n≤9223372036854775807) (hA:0<n→∀ k,blkOf A=some k→some k∉b) :
 Calls Tryz.prog 25 #[.pointer (some ⟨g,0,none⟩),.slice A n c] w (DPost w b g (D.crash ks) (.tuple #[])):=by
 obtain ⟨i0,hi,hz0,hz1,hz2⟩:=info_parts infoByte
 obtain ⟨v0,v1,v2,v3,v4,rfl,hO⟩:=h
 obtain ⟨A4,k4,rfl,hnc,hcs⟩:=CS.of_own (show w.ownsRow 0 156 4 v4 D.waits.length (chCells D.waits) from hO.own 4 rfl)
 have HO:=Lib.hid hO
 have OK:=Lib.hid hok
 have HK:=Lib.hid hK
 have HA:=Lib.hid hA
 obtain ⟨c0,c1,c2,c3,c4,c5,c6,c7⟩:=hO.has.cells8
 have cz:=hO.has.lt
 clear hO hok hK hA hcs
 go_enter Tryz.func25,Tryz.ntmps25
 go_wp2_with fail
 go_loopw [15] (fun v15 wr=>∃ (i:Nat) (u0 u2:Value),i≤D.waits.length∧v15 = .int .i64 i ∧
  Ob wr g 96 (dCells D.fails D.down D.count u0 v1 u2 v3 (.slice A4 D.waits.length k4)) (dRows (crashL ks (D.waits.take i) 0 0 D.l0) (D.seen 0) (crashL ks (D.waits.take i) 0 1 D.l1) (D.seen 1) D.waits u0 v1 u2 v3 (.slice A4 D.waits.length k4)) ∧
  Turn (blks g (dRows D.l0 (D.seen 0) D.l1 (D.seen 1) D.waits v0 v1 v2 v3 (.slice A4 D.waits.length k4))) (blks g (dRows (crashL ks (D.waits.take i) 0 0 D.l0) (D.seen 0) (crashL ks (D.waits.take i) 0 1 D.l1) (D.seen 1) D.waits u0 v1 u2 v3 (.slice A4 D.waits.length k4))) w wr) (fun v15 _=>D.waits.length-(intOf v15).toNat)
 case atStart=>exact ⟨0,v0,v2,Nat.zero_le _,rfl,HO.out,Turn.refl _ _⟩
 case round =>
  clear c0 c1 c2 c3 c4 c5 c6 c7 cz
  obtain ⟨i,u0,u2,hin,rfl,ho,ht⟩:=hrel
  have HOr:=Lib.hid ho
  have HT:=Lib.hid ht
  obtain ⟨c0,c1,c2,c3,c4,c5,c6,c7⟩:=ho.has.cells8
  have cz:=ho.has.lt
  have HKr:=Lib.hid (HK.out.turn ht HA.out)
  clear ho ht
  by_cases hi2:i<D.waits.length
  ·obtain ⟨A4',k4',e4,_,hcs⟩:=CS.of_own (show wr.ownsRow 0 156 4 (.slice A4 D.waits.length k4) D.waits.length (chCells D.waits) from HOr.out.own 4 rfl)
   cases e4
   obtain ⟨b4,o4,rfl,hb4,hcc⟩:=hcs.2 (by omega)
   obtain ⟨d0,d1,d2,d3⟩:=hcc i D.waits[i] (by simp [hi2])
   have C0:=Lib.hid (crashL_snoc ks hi2 0 D.l0)
   have C1:=Lib.hid (crashL_snoc ks hi2 1 D.l1)
   have FX:=Lib.hid (OK.out.waits D.waits[i] (List.getElem_mem hi2))
   obtain ⟨x,hx⟩:∃ x,D.waits[i]=x:=⟨_,rfl⟩
   simp only [hx] at d0 d1 d2 d3 C0 C1 FX
   have L0:=Lib.hid (crashL_fits ks (D.waits.take i) 0 0 D.l0 (fun c hc=>OK.out.waits c (List.mem_of_mem_take hc)) OK.out.l0)
   have L1:=Lib.hid (crashL_fits ks (D.waits.take i) 0 1 D.l1 (fun c hc=>OK.out.waits c (List.mem_of_mem_take hc)) OK.out.l1)
   have hxf:x.file<2:=FX.out.1
   clear hcc hcs hx
   obtain ⟨how,hhow⟩:∃ x,howL ks i=x:=⟨_,rfl⟩
   rw [hhow] at C0 C1
   have HHOW:=Lib.hid hhow
   clear hhow
   by_cases hn0:n=0
   ·have h0:how=0:=by rw [← HHOW.out];exact howL_none (by rw [HKr.out.1];exact hn0) i
    subst hn0 h0
    have E0:=Lib.hid (show crashL ks (D.waits.take (i+1)) 0 0 D.l0=crashL ks (D.waits.take i) 0 0 D.l0 by rw [C0.out];exact crash1_no (by omega) (by omega))
    have E1:=Lib.hid (show crashL ks (D.waits.take (i+1)) 0 1 D.l1=crashL ks (D.waits.take i) 0 1 D.l1 by rw [C1.out];exact crash1_no (by omega) (by omega))
    clear C0 C1
    go_wp2_with fail
    go_roundw
    case rel=>exact ⟨i+1,_,_,by omega,by simp,by rw [E0.out,E1.out];exact HOr.out.alloc _,by rw [E0.out,E1.out];exact HT.out.trans (Turn.below _ (below_mk _ _))⟩
    case measure=>simp [intOf];omega
   ·obtain ⟨bk,ok,rfl,hbk,hkc⟩:=HKr.out.2 (by omega)
    have hkn:i % n<ks.length:=by rw [HKr.out.1];exact Nat.mod_lt _ (by omega)
    have kc:=hkc (i % n) how (by rw [← HHOW.out,howL_some HKr.out.1 (by omega),List.getD_eq_getElem?_getD,List.getElem?_eq_getElem hkn];rfl)
    have ke:(i:Int) % (n:Int)=((i % n:Nat):Int):=by simp
    have n0:(0:Int)<(n:Int):=by omega
    have n1:((n:Int) == 0)=false:=by rw [beq_eq_false_iff_ne];omega
    have kl:i % n<n:=Nat.mod_lt _ (by omega)
    clear hkc hkn hn0
    obtain ⟨q,hq⟩:∃ q,i % n=q:=⟨_,rfl⟩
    rw [hq] at kc ke kl
    clear hq
    by_cases h1:how=1
    ·subst h1
     have FC:=Lib.hid (show (x).fits from FX.out)
     rcases (show x.file=0∨x.file=1 by omega) with hf | hf
     ·have xf:(x.file:Int)=0:=by omega
      have E0:=Lib.hid (show crashL ks (D.waits.take (i+1)) 0 0 D.l0=(x).done (crashL ks (D.waits.take i) 0 0 D.l0) by rw [C0.out];exact crash1_one hf)
      have E1:=Lib.hid (show crashL ks (D.waits.take (i+1)) 0 1 D.l1=crashL ks (D.waits.take i) 0 1 D.l1 by rw [C1.out];exact crash1_far (by omega))
      have T2:Hid (∀ (w1:World),w1.ownsRow 0 5 1 u0 (crashL ks (D.waits.take i) 0 0 D.l0).length (u8s (crashL ks (D.waits.take i) 0 0 D.l0))→Calls Tryz.prog 87 #[.agg #[.int .i64 0,.int .i64 x.at_,.string x.text,.bool x.cut],u0] w1 (RowPost w1 5 1 u0 ((x).done (crashL ks (D.waits.take i) 0 0 D.l0)).length (u8s ((x).done (crashL ks (D.waits.take i) 0 0 D.l0))))):=fun w1 h1=>by
       have h2:=disk_done (x) u0 _ w1 h1 L0.out FC.out
       unfold chVal at h2
       rw [show ((x).file:Int)=0 from xf,show (x).at_=x.at_ from rfl,show (x).text=x.text from rfl,show (x).cut=x.cut from rfl] at h2
       exact h2
      clear C0 C1 hf hxf
      go_upto_region 9 with fail
      have HOx:=Lib.hid (HOr.out.alloc (.cells #[.int .i64 0,.int .i64 x.at_,.string x.text,.bool x.cut] 156))
      have HXx:=Lib.hid (Has.new wr 156 #[.int .i64 0,.int .i64 x.at_,.string x.text,.bool x.cut])
      have HTx:=Lib.hid (HT.out.trans (Turn.below _ (below_mk wr (.cells #[.int .i64 0,.int .i64 x.at_,.string x.text,.bool x.cut] 156))))
      clear c0 c1 c2 c3 c4 c5 c6 c7 cz d0 d1 d2 d3
      generalize wr.alloc (.cells #[.int .i64 0,.int .i64 x.at_,.string x.text,.bool x.cut] 156)=W at *
      obtain ⟨x0,x1,x2,x3⟩:=HXx.out.cells4
      have xz:=HXx.out.lt
      have cz:=HOx.out.has.lt
      refine wp_region_cls (W) (by kernel_rfl) (by kernel_rfl) (Cls.start _) ?_
      repeat
       first
        | go_big_quiet_skip
        | (go_big_quiet_want;(first | go_big_quiet_op | go_simp);first | go_big_quiet_on | (apply Exists.intro;refine ⟨fun w' hw'=>?_, ?_⟩;(·(first | (with_reducible exact rfl) | (fail) | (obtain ⟨hc,hf⟩:=hw'.facts;go_simp;first | done | (with_reducible exact rfl) | (with_reducible exact ⟨rfl,rfl⟩))));go_big_quiet_on))
      refine wpQuiet_nil ?_
      intro wq hq
      have HQ:=Lib.hid hq
      have HO2:=Lib.hid (HOx.out.below hq)
      have HX3:=Lib.hid (HXx.out.belowS hq)
      clear hq x0 x1 x2 x3 xz cz
      obtain ⟨x0,x1,x2,x3⟩:=HX3.out.cells4
      have xz:=HX3.out.lt
      obtain ⟨c0,c1,c2,c3,c4,c5,c6,c7⟩:=HO2.out.has.cells8
      have cf:=HO2.out.has.frozen
      have cz:=HO2.out.has.lt
      go_wp2_with fail
      go_region_law
       (first | (go_simp;go_at_call 87;(with_reducible refine (T2.out _ ((HO2.out.own 0 rfl).drew)).mono ?_);rintro e w5 ⟨v',rfl,hown5,hr5⟩;obtain ⟨A5,k5,rfl,_⟩:=own_form hown5;have HR:=Lib.hid ((HO2.out.below (Below.refl _ _).drew).row 0 (r:=rowB u0 (crashL ks (D.waits.take i) 0 0 D.l0)) (r':=rowB _ ((x).done (crashL ks (D.waits.take i) 0 0 D.l0))) rfl hr5.grown hown5 hr5.at_);have gf5:=HR.out.1.has.frozen;have gc5:=HR.out.1.has.cells8;obtain ⟨g0,g1,g2,g3,g4,g5,g6,g7⟩:=gc5;have gz5:=HR.out.1.has.lt))
      all_goals
       go_wp2_with fail
       go_roundw
       case rel=>exact ⟨i+1,_,_,by omega,by simp,by rw [E0.out,E1.out];exact HR.out.1.set 0 _,by rw [E0.out,E1.out];exact HTx.out.trans ((Turn.below _ HQ.out).trans ((Turn.below _ (Below.refl _ _).drew).trans (HR.out.2.trans (Turn.set _ _ 0 _ _))))⟩
       case measure=>simp [intOf];omega
     ·have xf:(x.file:Int)=1:=by omega
      have E0:=Lib.hid (show crashL ks (D.waits.take (i+1)) 0 0 D.l0=crashL ks (D.waits.take i) 0 0 D.l0 by rw [C0.out];exact crash1_far (by omega))
      have E1:=Lib.hid (show crashL ks (D.waits.take (i+1)) 0 1 D.l1=(x).done (crashL ks (D.waits.take i) 0 1 D.l1) by rw [C1.out];exact crash1_one hf)
      have T2:Hid (∀ (w1:World),w1.ownsRow 0 5 1 u2 (crashL ks (D.waits.take i) 0 1 D.l1).length (u8s (crashL ks (D.waits.take i) 0 1 D.l1))→Calls Tryz.prog 87 #[.agg #[.int .i64 1,.int .i64 x.at_,.string x.text,.bool x.cut],u2] w1 (RowPost w1 5 1 u2 ((x).done (crashL ks (D.waits.take i) 0 1 D.l1)).length (u8s ((x).done (crashL ks (D.waits.take i) 0 1 D.l1))))):=fun w1 h1=>by
       have h2:=disk_done (x) u2 _ w1 h1 L1.out FC.out
       unfold chVal at h2
       rw [show ((x).file:Int)=1 from xf,show (x).at_=x.at_ from rfl,show (x).text=x.text from rfl,show (x).cut=x.cut from rfl] at h2
       exact h2
      clear C0 C1 hf hxf
      go_upto_region 9 with fail
      have HOx:=Lib.hid (HOr.out.alloc (.cells #[.int .i64 1,.int .i64 x.at_,.string x.text,.bool x.cut] 156))
      have HXx:=Lib.hid (Has.new wr 156 #[.int .i64 1,.int .i64 x.at_,.string x.text,.bool x.cut])
      have HTx:=Lib.hid (HT.out.trans (Turn.below _ (below_mk wr (.cells #[.int .i64 1,.int .i64 x.at_,.string x.text,.bool x.cut] 156))))
      clear c0 c1 c2 c3 c4 c5 c6 c7 cz d0 d1 d2 d3
      generalize wr.alloc (.cells #[.int .i64 1,.int .i64 x.at_,.string x.text,.bool x.cut] 156)=W at *
      obtain ⟨x0,x1,x2,x3⟩:=HXx.out.cells4
      have xz:=HXx.out.lt
      have cz:=HOx.out.has.lt
      refine wp_region_cls (W) (by kernel_rfl) (by kernel_rfl) (Cls.start _) ?_
      repeat
       first
        | go_big_quiet_skip
        | (go_big_quiet_want;(first | go_big_quiet_op | go_simp);first | go_big_quiet_on | (apply Exists.intro;refine ⟨fun w' hw'=>?_, ?_⟩;(·(first | (with_reducible exact rfl) | (fail) | (obtain ⟨hc,hf⟩:=hw'.facts;go_simp;first | done | (with_reducible exact rfl) | (with_reducible exact ⟨rfl,rfl⟩))));go_big_quiet_on))
      refine wpQuiet_nil ?_
      intro wq hq
      have HQ:=Lib.hid hq
      have HO2:=Lib.hid (HOx.out.below hq)
      have HX3:=Lib.hid (HXx.out.belowS hq)
      clear hq x0 x1 x2 x3 xz cz
      obtain ⟨x0,x1,x2,x3⟩:=HX3.out.cells4
      have xz:=HX3.out.lt
      obtain ⟨c0,c1,c2,c3,c4,c5,c6,c7⟩:=HO2.out.has.cells8
      have cf:=HO2.out.has.frozen
      have cz:=HO2.out.has.lt
      go_wp2_with fail
      go_region_law
       (first | (go_simp;go_at_call 87;(with_reducible refine (T2.out _ ((HO2.out.own 2 rfl).drew)).mono ?_);rintro e w5 ⟨v',rfl,hown5,hr5⟩;obtain ⟨A5,k5,rfl,_⟩:=own_form hown5;have HR:=Lib.hid ((HO2.out.below (Below.refl _ _).drew).row 2 (r:=rowB u2 (crashL ks (D.waits.take i) 0 1 D.l1)) (r':=rowB _ ((x).done (crashL ks (D.waits.take i) 0 1 D.l1))) rfl hr5.grown hown5 hr5.at_);have gf5:=HR.out.1.has.frozen;have gc5:=HR.out.1.has.cells8;obtain ⟨g0,g1,g2,g3,g4,g5,g6,g7⟩:=gc5;have gz5:=HR.out.1.has.lt))
      all_goals
       go_wp2_with fail
       go_roundw
       case rel=>exact ⟨i+1,_,_,by omega,by simp,by rw [E0.out,E1.out];exact HR.out.1.set 2 _,by rw [E0.out,E1.out];exact HTx.out.trans ((Turn.below _ HQ.out).trans ((Turn.below _ (Below.refl _ _).drew).trans (HR.out.2.trans (Turn.set _ _ 2 _ _))))⟩
       case measure=>simp [intOf];omega
    ·by_cases h2:how=2
     ·subst h2
      cases hcut:x.cut with
      | true =>
        have HC:=Lib.hid (half_cut hcut)
        rw [hcut] at d3
        have FC:=Lib.hid (show (x).fits from FX.out)
        rcases (show x.file=0∨x.file=1 by omega) with hf | hf
        ·have xf:(x.file:Int)=0:=by omega
         have E0:=Lib.hid (show crashL ks (D.waits.take (i+1)) 0 0 D.l0=(x).done (crashL ks (D.waits.take i) 0 0 D.l0) by rw [C0.out];exact (crash1_two hf).trans (by rw [HC.out]))
         have E1:=Lib.hid (show crashL ks (D.waits.take (i+1)) 0 1 D.l1=crashL ks (D.waits.take i) 0 1 D.l1 by rw [C1.out];exact crash1_far (by omega))
         have T2:Hid (∀ (w1:World),w1.ownsRow 0 5 1 u0 (crashL ks (D.waits.take i) 0 0 D.l0).length (u8s (crashL ks (D.waits.take i) 0 0 D.l0))→Calls Tryz.prog 87 #[.agg #[.int .i64 0,.int .i64 x.at_,.string x.text,.bool true],u0] w1 (RowPost w1 5 1 u0 ((x).done (crashL ks (D.waits.take i) 0 0 D.l0)).length (u8s ((x).done (crashL ks (D.waits.take i) 0 0 D.l0))))):=fun w1 h1=>by
          have h2:=disk_done (x) u0 _ w1 h1 L0.out FC.out
          unfold chVal at h2
          rw [show ((x).file:Int)=0 from xf,show (x).at_=x.at_ from rfl,show (x).text=x.text from rfl,hcut] at h2
          exact h2
         clear C0 C1 hf hxf
         go_upto_region 9 with fail
         have HOx:=Lib.hid (HOr.out.alloc (.cells #[.int .i64 0,.int .i64 x.at_,.string x.text,.bool true] 156))
         have HXx:=Lib.hid (Has.new wr 156 #[.int .i64 0,.int .i64 x.at_,.string x.text,.bool true])
         have HTx:=Lib.hid (HT.out.trans (Turn.below _ (below_mk wr (.cells #[.int .i64 0,.int .i64 x.at_,.string x.text,.bool true] 156))))
         clear c0 c1 c2 c3 c4 c5 c6 c7 cz d0 d1 d2 d3
         generalize wr.alloc (.cells #[.int .i64 0,.int .i64 x.at_,.string x.text,.bool true] 156)=W at *
         obtain ⟨x0,x1,x2,x3⟩:=HXx.out.cells4
         have xz:=HXx.out.lt
         have cz:=HOx.out.has.lt
         refine wp_region_cls (W) (by kernel_rfl) (by kernel_rfl) (Cls.start _) ?_
         repeat
          first
           | go_big_quiet_skip
           | (go_big_quiet_want;(first | go_big_quiet_op | go_simp);first | go_big_quiet_on | (apply Exists.intro;refine ⟨fun w' hw'=>?_, ?_⟩;(·(first | (with_reducible exact rfl) | (fail) | (obtain ⟨hc,hf⟩:=hw'.facts;go_simp;first | done | (with_reducible exact rfl) | (with_reducible exact ⟨rfl,rfl⟩))));go_big_quiet_on))
         refine wpQuiet_nil ?_
         intro wq hq
         have HQ:=Lib.hid hq
         have HO2:=Lib.hid (HOx.out.below hq)
         have HX3:=Lib.hid (HXx.out.belowS hq)
         clear hq x0 x1 x2 x3 xz cz
         obtain ⟨x0,x1,x2,x3⟩:=HX3.out.cells4
         have xz:=HX3.out.lt
         obtain ⟨c0,c1,c2,c3,c4,c5,c6,c7⟩:=HO2.out.has.cells8
         have cf:=HO2.out.has.frozen
         have cz:=HO2.out.has.lt
         go_wp2_with fail
         go_region_law
          (first | (go_simp;go_at_call 87;(with_reducible refine (T2.out _ ((HO2.out.own 0 rfl).drew)).mono ?_);rintro e w5 ⟨v',rfl,hown5,hr5⟩;obtain ⟨A5,k5,rfl,_⟩:=own_form hown5;have HR:=Lib.hid ((HO2.out.below (Below.refl _ _).drew).row 0 (r:=rowB u0 (crashL ks (D.waits.take i) 0 0 D.l0)) (r':=rowB _ ((x).done (crashL ks (D.waits.take i) 0 0 D.l0))) rfl hr5.grown hown5 hr5.at_);have gf5:=HR.out.1.has.frozen;have gc5:=HR.out.1.has.cells8;obtain ⟨g0,g1,g2,g3,g4,g5,g6,g7⟩:=gc5;have gz5:=HR.out.1.has.lt))
         all_goals
          go_wp2_with fail
          go_roundw
          case rel=>exact ⟨i+1,_,_,by omega,by simp,by rw [E0.out,E1.out];exact HR.out.1.set 0 _,by rw [E0.out,E1.out];exact HTx.out.trans ((Turn.below _ HQ.out).trans ((Turn.below _ (Below.refl _ _).drew).trans (HR.out.2.trans (Turn.set _ _ 0 _ _))))⟩
          case measure=>simp [intOf];omega
        ·have xf:(x.file:Int)=1:=by omega
         have E0:=Lib.hid (show crashL ks (D.waits.take (i+1)) 0 0 D.l0=crashL ks (D.waits.take i) 0 0 D.l0 by rw [C0.out];exact crash1_far (by omega))
         have E1:=Lib.hid (show crashL ks (D.waits.take (i+1)) 0 1 D.l1=(x).done (crashL ks (D.waits.take i) 0 1 D.l1) by rw [C1.out];exact (crash1_two hf).trans (by rw [HC.out]))
         have T2:Hid (∀ (w1:World),w1.ownsRow 0 5 1 u2 (crashL ks (D.waits.take i) 0 1 D.l1).length (u8s (crashL ks (D.waits.take i) 0 1 D.l1))→Calls Tryz.prog 87 #[.agg #[.int .i64 1,.int .i64 x.at_,.string x.text,.bool true],u2] w1 (RowPost w1 5 1 u2 ((x).done (crashL ks (D.waits.take i) 0 1 D.l1)).length (u8s ((x).done (crashL ks (D.waits.take i) 0 1 D.l1))))):=fun w1 h1=>by
          have h2:=disk_done (x) u2 _ w1 h1 L1.out FC.out
          unfold chVal at h2
          rw [show ((x).file:Int)=1 from xf,show (x).at_=x.at_ from rfl,show (x).text=x.text from rfl,hcut] at h2
          exact h2
         clear C0 C1 hf hxf
         go_upto_region 9 with fail
         have HOx:=Lib.hid (HOr.out.alloc (.cells #[.int .i64 1,.int .i64 x.at_,.string x.text,.bool true] 156))
         have HXx:=Lib.hid (Has.new wr 156 #[.int .i64 1,.int .i64 x.at_,.string x.text,.bool true])
         have HTx:=Lib.hid (HT.out.trans (Turn.below _ (below_mk wr (.cells #[.int .i64 1,.int .i64 x.at_,.string x.text,.bool true] 156))))
         clear c0 c1 c2 c3 c4 c5 c6 c7 cz d0 d1 d2 d3
         generalize wr.alloc (.cells #[.int .i64 1,.int .i64 x.at_,.string x.text,.bool true] 156)=W at *
         obtain ⟨x0,x1,x2,x3⟩:=HXx.out.cells4
         have xz:=HXx.out.lt
         have cz:=HOx.out.has.lt
         refine wp_region_cls (W) (by kernel_rfl) (by kernel_rfl) (Cls.start _) ?_
         repeat
          first
           | go_big_quiet_skip
           | (go_big_quiet_want;(first | go_big_quiet_op | go_simp);first | go_big_quiet_on | (apply Exists.intro;refine ⟨fun w' hw'=>?_, ?_⟩;(·(first | (with_reducible exact rfl) | (fail) | (obtain ⟨hc,hf⟩:=hw'.facts;go_simp;first | done | (with_reducible exact rfl) | (with_reducible exact ⟨rfl,rfl⟩))));go_big_quiet_on))
         refine wpQuiet_nil ?_
         intro wq hq
         have HQ:=Lib.hid hq
         have HO2:=Lib.hid (HOx.out.below hq)
         have HX3:=Lib.hid (HXx.out.belowS hq)
         clear hq x0 x1 x2 x3 xz cz
         obtain ⟨x0,x1,x2,x3⟩:=HX3.out.cells4
         have xz:=HX3.out.lt
         obtain ⟨c0,c1,c2,c3,c4,c5,c6,c7⟩:=HO2.out.has.cells8
         have cf:=HO2.out.has.frozen
         have cz:=HO2.out.has.lt
         go_wp2_with fail
         go_region_law
          (first | (go_simp;go_at_call 87;(with_reducible refine (T2.out _ ((HO2.out.own 2 rfl).drew)).mono ?_);rintro e w5 ⟨v',rfl,hown5,hr5⟩;obtain ⟨A5,k5,rfl,_⟩:=own_form hown5;have HR:=Lib.hid ((HO2.out.below (Below.refl _ _).drew).row 2 (r:=rowB u2 (crashL ks (D.waits.take i) 0 1 D.l1)) (r':=rowB _ ((x).done (crashL ks (D.waits.take i) 0 1 D.l1))) rfl hr5.grown hown5 hr5.at_);have gf5:=HR.out.1.has.frozen;have gc5:=HR.out.1.has.cells8;obtain ⟨g0,g1,g2,g3,g4,g5,g6,g7⟩:=gc5;have gz5:=HR.out.1.has.lt))
         all_goals
          go_wp2_with fail
          go_roundw
          case rel=>exact ⟨i+1,_,_,by omega,by simp,by rw [E0.out,E1.out];exact HR.out.1.set 2 _,by rw [E0.out,E1.out];exact HTx.out.trans ((Turn.below _ HQ.out).trans ((Turn.below _ (Below.refl _ _).drew).trans (HR.out.2.trans (Turn.set _ _ 2 _ _))))⟩
          case measure=>simp [intOf];omega
      | false =>
        have HC:=Lib.hid (half_text hcut)
        rw [hcut] at d3
        obtain ⟨tx,htx⟩:∃ t,x.text.extract 0 (x.text.size / 2)=t:=⟨_,rfl⟩
        rw [htx] at HC
        have hsz:=FX.out.2.2.1
        have hs1:x.text.size / 2≤x.text.size:=by omega
        have hh:=Lib.hid (half_fits FX.out)
        rw [HC.out] at hh
        have FC:=Lib.hid (show ({ x with text:=tx,cut:=false }:Ch).fits from hh.out)
        rcases (show x.file=0∨x.file=1 by omega) with hf | hf
        ·have xf:(x.file:Int)=0:=by omega
         have E0:=Lib.hid (show crashL ks (D.waits.take (i+1)) 0 0 D.l0=({ x with text:=tx,cut:=false }:Ch).done (crashL ks (D.waits.take i) 0 0 D.l0) by rw [C0.out];exact (crash1_two hf).trans (by rw [HC.out]))
         have E1:=Lib.hid (show crashL ks (D.waits.take (i+1)) 0 1 D.l1=crashL ks (D.waits.take i) 0 1 D.l1 by rw [C1.out];exact crash1_far (by omega))
         have T2:Hid (∀ (w1:World),w1.ownsRow 0 5 1 u0 (crashL ks (D.waits.take i) 0 0 D.l0).length (u8s (crashL ks (D.waits.take i) 0 0 D.l0))→Calls Tryz.prog 87 #[.agg #[.int .i64 0,.int .i64 x.at_,.string tx,.bool false],u0] w1 (RowPost w1 5 1 u0 (({ x with text:=tx,cut:=false }:Ch).done (crashL ks (D.waits.take i) 0 0 D.l0)).length (u8s (({ x with text:=tx,cut:=false }:Ch).done (crashL ks (D.waits.take i) 0 0 D.l0))))):=fun w1 h1=>by
          have h2:=disk_done ({ x with text:=tx,cut:=false }:Ch) u0 _ w1 h1 L0.out FC.out
          unfold chVal at h2
          rw [show (({ x with text:=tx,cut:=false }:Ch).file:Int)=0 from xf,show ({ x with text:=tx,cut:=false }:Ch).at_=x.at_ from rfl,show ({ x with text:=tx,cut:=false }:Ch).text=tx from rfl,show ({ x with text:=tx,cut:=false }:Ch).cut=false from rfl] at h2
          exact h2
         clear C0 C1 hf hxf HC hh hcut
         go_upto_region 9 with fail
         have HOx:=Lib.hid (HOr.out.alloc (.cells #[.int .i64 0,.int .i64 x.at_,.string tx,.bool false] 156))
         have HXx:=Lib.hid (Has.new wr 156 #[.int .i64 0,.int .i64 x.at_,.string tx,.bool false])
         have HTx:=Lib.hid (HT.out.trans (Turn.below _ (below_mk wr (.cells #[.int .i64 0,.int .i64 x.at_,.string tx,.bool false] 156))))
         clear c0 c1 c2 c3 c4 c5 c6 c7 cz d0 d1 d2 d3
         generalize wr.alloc (.cells #[.int .i64 0,.int .i64 x.at_,.string tx,.bool false] 156)=W at *
         obtain ⟨x0,x1,x2,x3⟩:=HXx.out.cells4
         have xz:=HXx.out.lt
         have cz:=HOx.out.has.lt
         refine wp_region_cls (W) (by kernel_rfl) (by kernel_rfl) (Cls.start _) ?_
         repeat
          first
           | go_big_quiet_skip
           | (go_big_quiet_want;(first | go_big_quiet_op | go_simp);first | go_big_quiet_on | (apply Exists.intro;refine ⟨fun w' hw'=>?_, ?_⟩;(·(first | (with_reducible exact rfl) | (fail) | (obtain ⟨hc,hf⟩:=hw'.facts;go_simp;first | done | (with_reducible exact rfl) | (with_reducible exact ⟨rfl,rfl⟩))));go_big_quiet_on))
         refine wpQuiet_nil ?_
         intro wq hq
         have HQ:=Lib.hid hq
         have HO2:=Lib.hid (HOx.out.below hq)
         have HX3:=Lib.hid (HXx.out.belowS hq)
         clear hq x0 x1 x2 x3 xz cz
         obtain ⟨x0,x1,x2,x3⟩:=HX3.out.cells4
         have xz:=HX3.out.lt
         obtain ⟨c0,c1,c2,c3,c4,c5,c6,c7⟩:=HO2.out.has.cells8
         have cf:=HO2.out.has.frozen
         have cz:=HO2.out.has.lt
         go_wp2_with fail
         go_region_law
          (first | (go_simp;go_at_call 87;(with_reducible refine (T2.out _ ((HO2.out.own 0 rfl).drew)).mono ?_);rintro e w5 ⟨v',rfl,hown5,hr5⟩;obtain ⟨A5,k5,rfl,_⟩:=own_form hown5;have HR:=Lib.hid ((HO2.out.below (Below.refl _ _).drew).row 0 (r:=rowB u0 (crashL ks (D.waits.take i) 0 0 D.l0)) (r':=rowB _ (({ x with text:=tx,cut:=false }:Ch).done (crashL ks (D.waits.take i) 0 0 D.l0))) rfl hr5.grown hown5 hr5.at_);have gf5:=HR.out.1.has.frozen;have gc5:=HR.out.1.has.cells8;obtain ⟨g0,g1,g2,g3,g4,g5,g6,g7⟩:=gc5;have gz5:=HR.out.1.has.lt))
         all_goals
          go_wp2_with fail
          go_roundw
          case rel=>exact ⟨i+1,_,_,by omega,by simp,by rw [E0.out,E1.out];exact HR.out.1.set 0 _,by rw [E0.out,E1.out];exact HTx.out.trans ((Turn.below _ HQ.out).trans ((Turn.below _ (Below.refl _ _).drew).trans (HR.out.2.trans (Turn.set _ _ 0 _ _))))⟩
          case measure=>simp [intOf];omega
        ·have xf:(x.file:Int)=1:=by omega
         have E0:=Lib.hid (show crashL ks (D.waits.take (i+1)) 0 0 D.l0=crashL ks (D.waits.take i) 0 0 D.l0 by rw [C0.out];exact crash1_far (by omega))
         have E1:=Lib.hid (show crashL ks (D.waits.take (i+1)) 0 1 D.l1=({ x with text:=tx,cut:=false }:Ch).done (crashL ks (D.waits.take i) 0 1 D.l1) by rw [C1.out];exact (crash1_two hf).trans (by rw [HC.out]))
         have T2:Hid (∀ (w1:World),w1.ownsRow 0 5 1 u2 (crashL ks (D.waits.take i) 0 1 D.l1).length (u8s (crashL ks (D.waits.take i) 0 1 D.l1))→Calls Tryz.prog 87 #[.agg #[.int .i64 1,.int .i64 x.at_,.string tx,.bool false],u2] w1 (RowPost w1 5 1 u2 (({ x with text:=tx,cut:=false }:Ch).done (crashL ks (D.waits.take i) 0 1 D.l1)).length (u8s (({ x with text:=tx,cut:=false }:Ch).done (crashL ks (D.waits.take i) 0 1 D.l1))))):=fun w1 h1=>by
          have h2:=disk_done ({ x with text:=tx,cut:=false }:Ch) u2 _ w1 h1 L1.out FC.out
          unfold chVal at h2
          rw [show (({ x with text:=tx,cut:=false }:Ch).file:Int)=1 from xf,show ({ x with text:=tx,cut:=false }:Ch).at_=x.at_ from rfl,show ({ x with text:=tx,cut:=false }:Ch).text=tx from rfl,show ({ x with text:=tx,cut:=false }:Ch).cut=false from rfl] at h2
          exact h2
         clear C0 C1 hf hxf HC hh hcut
         go_upto_region 9 with fail
         have HOx:=Lib.hid (HOr.out.alloc (.cells #[.int .i64 1,.int .i64 x.at_,.string tx,.bool false] 156))
         have HXx:=Lib.hid (Has.new wr 156 #[.int .i64 1,.int .i64 x.at_,.string tx,.bool false])
         have HTx:=Lib.hid (HT.out.trans (Turn.below _ (below_mk wr (.cells #[.int .i64 1,.int .i64 x.at_,.string tx,.bool false] 156))))
         clear c0 c1 c2 c3 c4 c5 c6 c7 cz d0 d1 d2 d3
         generalize wr.alloc (.cells #[.int .i64 1,.int .i64 x.at_,.string tx,.bool false] 156)=W at *
         obtain ⟨x0,x1,x2,x3⟩:=HXx.out.cells4
         have xz:=HXx.out.lt
         have cz:=HOx.out.has.lt
         refine wp_region_cls (W) (by kernel_rfl) (by kernel_rfl) (Cls.start _) ?_
         repeat
          first
           | go_big_quiet_skip
           | (go_big_quiet_want;(first | go_big_quiet_op | go_simp);first | go_big_quiet_on | (apply Exists.intro;refine ⟨fun w' hw'=>?_, ?_⟩;(·(first | (with_reducible exact rfl) | (fail) | (obtain ⟨hc,hf⟩:=hw'.facts;go_simp;first | done | (with_reducible exact rfl) | (with_reducible exact ⟨rfl,rfl⟩))));go_big_quiet_on))
         refine wpQuiet_nil ?_
         intro wq hq
         have HQ:=Lib.hid hq
         have HO2:=Lib.hid (HOx.out.below hq)
         have HX3:=Lib.hid (HXx.out.belowS hq)
         clear hq x0 x1 x2 x3 xz cz
         obtain ⟨x0,x1,x2,x3⟩:=HX3.out.cells4
         have xz:=HX3.out.lt
         obtain ⟨c0,c1,c2,c3,c4,c5,c6,c7⟩:=HO2.out.has.cells8
         have cf:=HO2.out.has.frozen
         have cz:=HO2.out.has.lt
         go_wp2_with fail
         go_region_law
          (first | (go_simp;go_at_call 87;(with_reducible refine (T2.out _ ((HO2.out.own 2 rfl).drew)).mono ?_);rintro e w5 ⟨v',rfl,hown5,hr5⟩;obtain ⟨A5,k5,rfl,_⟩:=own_form hown5;have HR:=Lib.hid ((HO2.out.below (Below.refl _ _).drew).row 2 (r:=rowB u2 (crashL ks (D.waits.take i) 0 1 D.l1)) (r':=rowB _ (({ x with text:=tx,cut:=false }:Ch).done (crashL ks (D.waits.take i) 0 1 D.l1))) rfl hr5.grown hown5 hr5.at_);have gf5:=HR.out.1.has.frozen;have gc5:=HR.out.1.has.cells8;obtain ⟨g0,g1,g2,g3,g4,g5,g6,g7⟩:=gc5;have gz5:=HR.out.1.has.lt))
         all_goals
          go_wp2_with fail
          go_roundw
          case rel=>exact ⟨i+1,_,_,by omega,by simp,by rw [E0.out,E1.out];exact HR.out.1.set 2 _,by rw [E0.out,E1.out];exact HTx.out.trans ((Turn.below _ HQ.out).trans ((Turn.below _ (Below.refl _ _).drew).trans (HR.out.2.trans (Turn.set _ _ 2 _ _))))⟩
          case measure=>simp [intOf];omega
     ·have hh1:(how == 1)=false:=by rw [beq_eq_false_iff_ne];exact h1
      have hh2:(how == 2)=false:=by rw [beq_eq_false_iff_ne];exact h2
      have E0:=Lib.hid (show crashL ks (D.waits.take (i+1)) 0 0 D.l0=crashL ks (D.waits.take i) 0 0 D.l0 by rw [C0.out];exact crash1_no (by omega) (by omega))
      have E1:=Lib.hid (show crashL ks (D.waits.take (i+1)) 0 1 D.l1=crashL ks (D.waits.take i) 0 1 D.l1 by rw [C1.out];exact crash1_no (by omega) (by omega))
      clear C0 C1
      go_wp2_with fail
      go_roundw
      case rel=>exact ⟨i+1,_,_,by omega,by simp,by rw [E0.out,E1.out];exact HOr.out.alloc _,by rw [E0.out,E1.out];exact HT.out.trans (Turn.below _ (below_mk _ _))⟩
      case measure=>simp [intOf];omega
  ·obtain rfl:i=D.waits.length:=by omega
   have E0:=Lib.hid (show crashL ks (D.waits.take D.waits.length) 0 0 D.l0=(D.crash ks).l0 by rw [List.take_length];rfl)
   have E1:=Lib.hid (show crashL ks (D.waits.take D.waits.length) 0 1 D.l1=(D.crash ks).l1 by rw [List.take_length];rfl)
   have OK2:=Lib.hid (Dk.crash_ok OK.out ks)
   have EQ:=Lib.hid (show (D.crash ks).waits=[]∧(D.crash ks).fails = -1∧(D.crash ks).down=false∧(D.crash ks).count=D.count∧(D.crash ks).seen 0=(D.crash ks).l0∧(D.crash ks).seen 1=(D.crash ks).l1 from ⟨rfl,rfl,rfl,rfl,rfl,rfl⟩)
   rw [E0.out,E1.out] at HOr HT
   obtain ⟨E,hE⟩:∃ E,D.crash ks=E:=⟨_,rfl⟩
   rw [hE] at HOr HT OK2 EQ
   have HE:=Lib.hid hE
   clear E0 E1 hE HKr
   go_wp2_with fail
   go_loopw [67] (fun v67 wr'=>∃ (j:Nat) (u0 u1 u2 u3:Value),j≤2∧v67 = .int .i64 j ∧
    Ob wr' g 96 (dCells D.fails D.down D.count u0 u1 u2 u3 (.slice A4 D.waits.length k4)) (dRows E.l0 (if 0<j then E.l0 else D.seen 0) E.l1 (if 1<j then E.l1 else D.seen 1) D.waits u0 u1 u2 u3 (.slice A4 D.waits.length k4)) ∧
    Turn (blks g (dRows D.l0 (D.seen 0) D.l1 (D.seen 1) D.waits v0 v1 v2 v3 (.slice A4 D.waits.length k4))) (blks g (dRows E.l0 (if 0<j then E.l0 else D.seen 0) E.l1 (if 1<j then E.l1 else D.seen 1) D.waits u0 u1 u2 u3 (.slice A4 D.waits.length k4))) w wr') (fun v67 _=>2-(intOf v67).toNat)
   case atStart=>exact ⟨0,u0,v1,u2,v3,by omega,rfl,HOr.out,HT.out⟩
   case round =>
    clear c0 c1 c2 c3 c4 c5 c6 c7 cz HOr HT
    obtain ⟨j,u0,u1,u2,u3,hj,rfl,ho,ht⟩:=hrel
    have HOr:=Lib.hid ho
    have HT:=Lib.hid ht
    obtain ⟨c0,c1,c2,c3,c4,c5,c6,c7⟩:=ho.has.cells8
    have cf:=ho.has.frozen
    have cz:=ho.has.lt
    have L0:=OK2.out.l0
    have L1:=OK2.out.l1
    clear ho ht
    rcases (show j=0∨j=1∨j=2 by omega) with rfl | rfl | rfl
    ·have HO2:=Lib.hid (show Ob wr g 96 (dCells D.fails D.down D.count u0 u1 u2 u3 (.slice A4 D.waits.length k4)) (dRows E.l0 (D.seen 0) E.l1 (D.seen 1) D.waits u0 u1 u2 u3 (.slice A4 D.waits.length k4)) from HOr.out)
     have HT2:=Lib.hid (show Turn (blks g (dRows D.l0 (D.seen 0) D.l1 (D.seen 1) D.waits v0 v1 v2 v3 (.slice A4 D.waits.length k4))) (blks g (dRows E.l0 (D.seen 0) E.l1 (D.seen 1) D.waits u0 u1 u2 u3 (.slice A4 D.waits.length k4))) w wr from HT.out)
     obtain ⟨As,cs,hvs,_,hbs⟩:=BS.of_own (show wr.ownsRow 0 5 1 u0 E.l0.length (u8s E.l0) from HO2.out.own 0 rfl)
     rw [hvs] at c0
     have HBS:=Lib.hid hbs
     have G1:=Lib.hid (show 0+E.l0.length≤maxLen by unfold maxLen;omega)
     have G2:=Lib.hid (show (0+E.l0.length)*1≤140737488355328 by omega)
     have HVS:=Lib.hid hvs
     clear HOr HT hbs hvs
     go_wp2_with (at_builtin;go_loud (refine wpList_append_src _ rfl (.const (.slice none 0 0)) (.tmp 79) 39 39 rfl 0 5 i0 _ 1 1 Tryz.underlying39 hi hz0 hz1 hz2 zeroByte1 (by decide) (.slice none 0 0) 0 [] rfl (World.ownsRow_nil _ _ _ _) (.slice As E.l0.length cs) E.l0.length (u8s E.l0) rfl (HBS.out.src Tryz.underlying39) G1.out G2.out (Nat.zero_le _) ?_);intro vv w6 hown1 hg1 _ hat1;rw [Nat.zero_add] at hown1;obtain ⟨A5,k5,rfl,_⟩:=own_form hown1;have HR:=Lib.hid (HO2.out.row 1 (r:=rowB u1 (D.seen 0)) (r':=rowB (.slice A5 E.l0.length k5) E.l0) rfl (grownBy_weak hg1) hown1 (.inr (fresh_own hat1)));have gf5:=HR.out.1.has.frozen;have gc5:=HR.out.1.has.cells8;obtain ⟨g0,g1,g2,g3,g4,g5,g6,g7⟩:=gc5;have gz5:=HR.out.1.has.lt;clear hown1 hg1 hat1)
     go_roundw
     case rel=>exact ⟨0+1,_,_,_,_,by omega,rfl,HR.out.1.set 1 _,HT2.out.trans (HR.out.2.trans (Turn.set _ _ 1 _ _))⟩
     case measure=>simp [intOf]
    ·have HO2:=Lib.hid (show Ob wr g 96 (dCells D.fails D.down D.count u0 u1 u2 u3 (.slice A4 D.waits.length k4)) (dRows E.l0 E.l0 E.l1 (D.seen 1) D.waits u0 u1 u2 u3 (.slice A4 D.waits.length k4)) from HOr.out)
     have HT2:=Lib.hid (show Turn (blks g (dRows D.l0 (D.seen 0) D.l1 (D.seen 1) D.waits v0 v1 v2 v3 (.slice A4 D.waits.length k4))) (blks g (dRows E.l0 E.l0 E.l1 (D.seen 1) D.waits u0 u1 u2 u3 (.slice A4 D.waits.length k4))) w wr from HT.out)
     obtain ⟨As,cs,hvs,_,hbs⟩:=BS.of_own (show wr.ownsRow 0 5 1 u2 E.l1.length (u8s E.l1) from HO2.out.own 2 rfl)
     rw [hvs] at c2
     have HBS:=Lib.hid hbs
     have G1:=Lib.hid (show 0+E.l1.length≤maxLen by unfold maxLen;omega)
     have G2:=Lib.hid (show (0+E.l1.length)*1≤140737488355328 by omega)
     have HVS:=Lib.hid hvs
     clear HOr HT hbs hvs
     go_wp2_with (at_builtin;go_loud (refine wpList_append_src _ rfl (.const (.slice none 0 0)) (.tmp 79) 39 39 rfl 0 5 i0 _ 1 1 Tryz.underlying39 hi hz0 hz1 hz2 zeroByte1 (by decide) (.slice none 0 0) 0 [] rfl (World.ownsRow_nil _ _ _ _) (.slice As E.l1.length cs) E.l1.length (u8s E.l1) rfl (HBS.out.src Tryz.underlying39) G1.out G2.out (Nat.zero_le _) ?_);intro vv w6 hown1 hg1 _ hat1;rw [Nat.zero_add] at hown1;obtain ⟨A5,k5,rfl,_⟩:=own_form hown1;have HR:=Lib.hid (HO2.out.row 3 (r:=rowB u3 (D.seen 1)) (r':=rowB (.slice A5 E.l1.length k5) E.l1) rfl (grownBy_weak hg1) hown1 (.inr (fresh_own hat1)));have gf5:=HR.out.1.has.frozen;have gc5:=HR.out.1.has.cells8;obtain ⟨g0,g1,g2,g3,g4,g5,g6,g7⟩:=gc5;have gz5:=HR.out.1.has.lt;clear hown1 hg1 hat1)
     go_roundw
     case rel=>exact ⟨1+1,_,_,_,_,by omega,rfl,HR.out.1.set 3 _,HT2.out.trans (HR.out.2.trans (Turn.set _ _ 3 _ _))⟩
     case measure=>simp [intOf]
    ·have HO2:=Lib.hid (show Ob wr g 96 (dCells D.fails D.down D.count u0 u1 u2 u3 (.slice A4 D.waits.length k4)) (dRows E.l0 E.l0 E.l1 E.l1 D.waits u0 u1 u2 u3 (.slice A4 D.waits.length k4)) from HOr.out)
     have HT2:=Lib.hid (show Turn (blks g (dRows D.l0 (D.seen 0) D.l1 (D.seen 1) D.waits v0 v1 v2 v3 (.slice A4 D.waits.length k4))) (blks g (dRows E.l0 E.l0 E.l1 E.l1 D.waits u0 u1 u2 u3 (.slice A4 D.waits.length k4))) w wr from HT.out)
     clear HOr HT
     go_wp2_with fail
     go_end0
     refine ⟨rfl,_, ?_,(((HT2.out.swap 4 (r':=rowC (.slice none 0 0) []) (fun k hk=>by cases hk)).trans (Turn.set _ _ 4 _ _)).trans (Turn.set _ _ 5 _ _)).trans (Turn.set _ _ 6 _ _)⟩
     unfold DP
     rw [HE.out,EQ.out.1,EQ.out.2.1,EQ.out.2.2.1,EQ.out.2.2.2.1,EQ.out.2.2.2.2.1,EQ.out.2.2.2.2.2]
     exact ⟨_,_,_,_,_,rfl,(((HO2.out.swap 4 (r':=rowC (.slice none 0 0) []) rfl (World.ownsRow_nil _ _ _ _) (fun k hk=>by cases hk)).set 4 _).set 5 _).set 6 _⟩
end Go.Proofs.YtjihboddejaelaaGreat
namespace Go.Proofs.YtjihboddejaelaaGreat
open Go.RowKit
open Go.BigFrame
def rowA (v:Value) (ws:List Ch):Row:=⟨v,160,4,ws.length,chCells ws⟩
def rCells (l0 l1:List UInt8) (fs:Int) (dn:Bool) (ct:Nat) (vw:Value):Array Value:=#[.string (bsOf l0),.string (bsOf l1),vw,.int .i64 fs,.bool dn,.int .i64 ct]
def RPx (w:World) (b:List (Option Nat)) (r:Nat) (l0 l1:List UInt8) (ws:List Ch) (fs:Int) (dn:Bool) (ct:Nat):Prop :=
 ∃ vw,b=blks r [rowA vw ws]∧Ob w r 136 (rCells l0 l1 fs dn ct vw) [rowA vw ws]
def RP (w:World) (b:List (Option Nat)) (r:Nat) (D:Dk):Prop:=RPx w b r D.l0 D.l1 D.waits D.fails D.down D.count
def RPost (w:World) (b:List (Option Nat)) (r:Nat) (D':Dk) (v:Value) (e:Ending) (w':World):Prop :=
 e = .returned v∧∃ b',RP w' b' r D'∧Turn b b' w w'
section
variable {w w':World} {b:List (Option Nat)} {r:Nat} {D:Dk} {t:TypeId} {a0 a1 a2 a3 a4 a5:Value}
theorem Has.cells6 (h:Has w r t #[a0,a1,a2,a3,a4,a5]):w.cell? ⟨r,0,none⟩=some a0∧w.cell? ⟨r,1,none⟩=some a1∧w.cell? ⟨r,2,none⟩=some a2∧w.cell? ⟨r,3,none⟩=some a3∧w.cell? ⟨r,4,none⟩=some a4∧w.cell? ⟨r,5,none⟩=some a5 :=
 ⟨h.cell 0,h.cell 1,h.cell 2,h.cell 3,h.cell 4,h.cell 5⟩
theorem RP.below (h:RP w b r D) (hb:Below w.heap.size w w'):RP w' b r D:=by
 obtain ⟨v,h1,h2⟩:=h
 exact ⟨v,h1,h2.below hb⟩
theorem RP.lt (h:RP w b r D) {k:Nat} (hk:some k∈b):k<w.heap.size:=by
 obtain ⟨v,rfl,h2⟩:=h
 exact h2.lt hk
theorem RPost.refl {v:Value} (h:RP w b r D):RPost w b r D v (.returned v) w:=⟨rfl,b,h,Turn.refl _ _⟩
end
theorem extr_mid (l:List UInt8) (a n:Nat):(bsOf l).extract a (a+n)=bsOf ((l.drop a).take n):=by
 apply ByteArray.ext;apply Array.toList_inj.1
 rw [Lib.extract_data,bsOf_data,bsOf_data]
 have e:a+n-a=n:=by omega
 rw [e]
theorem seenL_step {ws:List Ch} {i:Nat} (hi:i<ws.length) (f:Nat) (l:List UInt8):seenL (ws.take (i+1)) f l=if ws[i].file=f then ws[i].done (seenL (ws.take i) f l) else seenL (ws.take i) f l:=by
 rw [List.take_succ_eq_append_getElem hi,seenL_snoc]
set_option maxRecDepth 100000 in
set_option maxHeartbeats 3200000 in
theorem refd_Seen (r:Nat) (D:Dk) (b:List (Option Nat)) (f:Nat) (w:World) (h:RP w b r D) (hok:D.ok) (hf:f<2) (hws:D.waits.length≤1000000000) :
 Calls Tryz.prog 93 #[.pointer (some ⟨r,0,none⟩),.int .i64 f] w fun e w'=>e = .returned (.string (bsOf (D.seen f)))∧Below w.heap.size w w':=by
 obtain ⟨vw,rfl,hO⟩:=h
 obtain ⟨A4,k4,rfl,hnc,hcs⟩:=CS.of_own (show w.ownsRow 0 160 4 vw D.waits.length (chCells D.waits) from hO.own 0 rfl)
 have HCS:=Lib.hid hcs
 have OK:=Lib.hid hok
 obtain ⟨c0,c1,c2,c3,c4,c5⟩:=hO.has.cells6
 have cz:=hO.has.lt
 clear hO hok hcs
 rcases (show f=0∨f=1 by omega) with rfl | rfl
 ·obtain ⟨S0,hS0⟩:∃ S,bsOf D.l0=S:=⟨_,rfl⟩
  rw [hS0] at c0
  have HS0:=Lib.hid hS0
  clear hS0
  rw [show ((0:Nat):Int)=0 from rfl]
  go_enter Tryz.func93,Tryz.ntmps93
  go_wp2_with fail
  go_loopw [5,19] (fun v5 v19 wr=>∃ (i:Nat) (S:ByteArray),i≤D.waits.length∧v19 = .int .i64 i∧v5 = .string S∧bsOf (seenL (D.waits.take i) 0 D.l0)=S∧Below w.heap.size w wr) (fun _ v19 _=>D.waits.length-(intOf v19).toNat)
  case atStart=>exact ⟨0,S0,Nat.zero_le _,rfl,rfl,HS0.out,Below.refl _ _⟩
  case round =>
   obtain ⟨i,S,hin,rfl,rfl,hS,hb⟩:=hrel
   have HB:=Lib.hid hb
   have HS:=Lib.hid hS
   clear hb hS
   by_cases hi2:i<D.waits.length
   ·obtain ⟨b4,o4,rfl,hb4,hcc⟩:=HCS.out.2 (by omega)
    obtain ⟨a0,a1,a2,a3⟩:=hcc i D.waits[i] (by simp [hi2])
    obtain ⟨wcl,wfl⟩:=bcell HB.out
    have d0:=(wcl b4 (o4+i*4) hb4).trans a0
    have d1:=(wcl b4 (o4+i*4+1) hb4).trans a1
    have d2:=(wcl b4 (o4+i*4+2) hb4).trans a2
    have d3:=(wcl b4 (o4+i*4+3) hb4).trans a3
    have zz:b4<wr.heap.size:=by have:=HB.out.size;omega
    have ST:=Lib.hid (seenL_step hi2 0 D.l0)
    have FX:=Lib.hid (OK.out.waits D.waits[i] (List.getElem_mem hi2))
    have LL:=Lib.hid (seenL_fits (D.waits.take i) 0 D.l0 (fun c hc=>OK.out.waits c (List.mem_of_mem_take hc)) OK.out.l0)
    obtain ⟨x,hx⟩:∃ x,D.waits[i]=x:=⟨_,rfl⟩
    simp only [hx] at d0 d1 d2 d3 ST FX
    clear hcc a0 a1 a2 a3 wcl wfl hx
    by_cases hxf:x.file=0
    ·have xe:(x.file:Int)=0:=by omega
     have T:=Lib.hid (fun w1=>ref_on x (seenL (D.waits.take i) 0 D.l0) LL.out FX.out w1)
     have E:=Lib.hid (show seenL (D.waits.take (i+1)) 0 D.l0=x.done (seenL (D.waits.take i) 0 D.l0) by rw [ST.out,if_pos hxf])
     unfold actVal at T
     rw [xe,HS.out] at T
     clear hxf ST
     go_wp2_with (go_at_call 88;(with_reducible refine (T.out _).mono ?_);rintro e w1 ⟨rfl,hb1⟩)
     have HB1:=Lib.hid (bel_step (HB.out.alloc HB.out.size _) hb1 (Nat.le_trans HB.out.size (by simp)))
     clear hb1
     go_roundw
     case rel=>exact ⟨i+1,_,by omega,by simp,rfl,by rw [E.out],HB1.out⟩
     case measure=>simp [intOf];omega
    ·have xe:((x.file:Int) == 0)=false:=by rw [beq_eq_false_iff_ne];omega
     have E:=Lib.hid (show seenL (D.waits.take (i+1)) 0 D.l0=seenL (D.waits.take i) 0 D.l0 by rw [ST.out,if_neg hxf])
     clear hxf ST
     go_wp2_with fail
     go_roundw
     case rel=>exact ⟨i+1,S,by omega,by simp,rfl,by rw [E.out,HS.out],HB.out.alloc HB.out.size _⟩
     case measure=>simp [intOf];omega
   ·obtain rfl:i=D.waits.length:=by omega
    have E:=Lib.hid (show S=bsOf (D.seen 0) by rw [← HS.out,List.take_length];rfl)
    go_wp2_with fail
    go_ret
    exact ⟨by rw [← E.out];rfl,HB.out⟩
 ·obtain ⟨S0,hS0⟩:∃ S,bsOf D.l1=S:=⟨_,rfl⟩
  rw [hS0] at c1
  have HS0:=Lib.hid hS0
  clear hS0
  rw [show ((1:Nat):Int)=1 from rfl]
  go_enter Tryz.func93,Tryz.ntmps93
  go_wp2_with fail
  go_loopw [5,19] (fun v5 v19 wr=>∃ (i:Nat) (S:ByteArray),i≤D.waits.length∧v19 = .int .i64 i∧v5 = .string S∧bsOf (seenL (D.waits.take i) 1 D.l1)=S∧Below w.heap.size w wr) (fun _ v19 _=>D.waits.length-(intOf v19).toNat)
  case atStart=>exact ⟨0,S0,Nat.zero_le _,rfl,rfl,HS0.out,Below.refl _ _⟩
  case round =>
   obtain ⟨i,S,hin,rfl,rfl,hS,hb⟩:=hrel
   have HB:=Lib.hid hb
   have HS:=Lib.hid hS
   clear hb hS
   by_cases hi2:i<D.waits.length
   ·obtain ⟨b4,o4,rfl,hb4,hcc⟩:=HCS.out.2 (by omega)
    obtain ⟨a0,a1,a2,a3⟩:=hcc i D.waits[i] (by simp [hi2])
    obtain ⟨wcl,wfl⟩:=bcell HB.out
    have d0:=(wcl b4 (o4+i*4) hb4).trans a0
    have d1:=(wcl b4 (o4+i*4+1) hb4).trans a1
    have d2:=(wcl b4 (o4+i*4+2) hb4).trans a2
    have d3:=(wcl b4 (o4+i*4+3) hb4).trans a3
    have zz:b4<wr.heap.size:=by have:=HB.out.size;omega
    have ST:=Lib.hid (seenL_step hi2 1 D.l1)
    have FX:=Lib.hid (OK.out.waits D.waits[i] (List.getElem_mem hi2))
    have LL:=Lib.hid (seenL_fits (D.waits.take i) 1 D.l1 (fun c hc=>OK.out.waits c (List.mem_of_mem_take hc)) OK.out.l1)
    obtain ⟨x,hx⟩:∃ x,D.waits[i]=x:=⟨_,rfl⟩
    simp only [hx] at d0 d1 d2 d3 ST FX
    clear hcc a0 a1 a2 a3 wcl wfl hx
    by_cases hxf:x.file=1
    ·have xe:(x.file:Int)=1:=by omega
     have T:=Lib.hid (fun w1=>ref_on x (seenL (D.waits.take i) 1 D.l1) LL.out FX.out w1)
     have E:=Lib.hid (show seenL (D.waits.take (i+1)) 1 D.l1=x.done (seenL (D.waits.take i) 1 D.l1) by rw [ST.out,if_pos hxf])
     unfold actVal at T
     rw [xe,HS.out] at T
     clear hxf ST
     go_wp2_with (go_at_call 88;(with_reducible refine (T.out _).mono ?_);rintro e w1 ⟨rfl,hb1⟩)
     have HB1:=Lib.hid (bel_step (HB.out.alloc HB.out.size _) hb1 (Nat.le_trans HB.out.size (by simp)))
     clear hb1
     go_roundw
     case rel=>exact ⟨i+1,_,by omega,by simp,rfl,by rw [E.out],HB1.out⟩
     case measure=>simp [intOf];omega
    ·have xe:((x.file:Int) == 1)=false:=by rw [beq_eq_false_iff_ne];omega
     have E:=Lib.hid (show seenL (D.waits.take (i+1)) 1 D.l1=seenL (D.waits.take i) 1 D.l1 by rw [ST.out,if_neg hxf])
     clear hxf ST
     go_wp2_with fail
     go_roundw
     case rel=>exact ⟨i+1,S,by omega,by simp,rfl,by rw [E.out,HS.out],HB.out.alloc HB.out.size _⟩
     case measure=>simp [intOf];omega
   ·obtain rfl:i=D.waits.length:=by omega
    have E:=Lib.hid (show S=bsOf (D.seen 1) by rw [← HS.out,List.take_length];rfl)
    go_wp2_with fail
    go_ret
    exact ⟨by rw [← E.out];rfl,HB.out⟩
set_option maxRecDepth 100000 in
set_option maxHeartbeats 1600000 in
theorem refd_turn (r:Nat) (D:Dk) (b:List (Option Nat)) (w:World) (h:RP w b r D) (hok:D.ok) (hc:D.count≤4000000000000000000) :
 Calls Tryz.prog 202 #[.pointer (some ⟨r,0,none⟩)] w (RPost w b r D.turn (.int .i64 D.turnE)):=by
 obtain ⟨vw,rfl,hO⟩:=h
 have HOb:=Lib.hid hO
 obtain ⟨c0,c1,c2,c3,c4,c5⟩:=hO.has.cells6
 have cf:=hO.has.frozen
 have cz:=hO.has.lt
 have hfl:=hok.fails
 obtain ⟨l0,l1,ws,fs,dn,ct⟩:=D
 simp only at c3 c4 c5 hfl hc
 clear hO
 obtain ⟨hf1,hf2⟩:=hfl
 cases dn with
 | true =>
   have E:=Lib.hid (show Dk.turn ⟨l0,l1,ws,fs,true,ct⟩=⟨l0,l1,ws,fs,true,ct⟩∧Dk.turnE ⟨l0,l1,ws,fs,true,ct⟩=2 from ⟨if_pos (.inl rfl),if_pos (.inl rfl)⟩)
   rw [E.out.1,E.out.2]
   go_enter Tryz.func202,Tryz.ntmps202
   go_wp2_with fail
   go_ret
   exact ⟨rfl,_,⟨vw,rfl,HOb.out.set 4 (.bool true)⟩,Turn.set _ _ _ _ _⟩
 | false =>
   by_cases f0:fs=0
   ·have E:=Lib.hid (show Dk.turn ⟨l0,l1,ws,fs,false,ct⟩=⟨l0,l1,ws,fs,true,ct⟩∧Dk.turnE ⟨l0,l1,ws,fs,false,ct⟩=2 from ⟨if_pos (.inr f0),if_pos (.inr f0)⟩)
    rw [E.out.1,E.out.2]
    subst f0
    go_enter Tryz.func202,Tryz.ntmps202
    go_wp2_with fail
    go_ret
    exact ⟨rfl,_,⟨vw,rfl,HOb.out.set 4 (.bool true)⟩,Turn.set _ _ _ _ _⟩
   ·have hst:¬ Dk.stops ⟨l0,l1,ws,fs,false,ct⟩:=fun h=>h.elim (fun h=>by cases h) f0
    have E:=Lib.hid (show Dk.turn ⟨l0,l1,ws,fs,false,ct⟩=⟨l0,l1,ws,if 0<fs then fs-1 else fs,false,ct+1⟩∧Dk.turnE ⟨l0,l1,ws,fs,false,ct⟩=0 from ⟨if_neg hst,if_neg hst⟩)
    rw [E.out.1,E.out.2]
    have fe:(fs == 0)=false:=by rw [beq_eq_false_iff_ne];exact f0
    clear hst f0
    by_cases f1:0<fs
    ·rw [if_pos f1]
     go_enter Tryz.func202,Tryz.ntmps202
     go_wp2_with fail
     go_ret
     refine ⟨rfl,_,⟨vw,rfl, ?_⟩,(Turn.set _ _ 3 (.int .i64 (fs-1)) _).trans (Turn.set _ _ 5 (.int .i64 ((ct:Int)+1)) _)⟩
     exact (HOb.out.set 3 (.int .i64 (fs-1))).set 5 (.int .i64 ((ct:Int)+1))
    ·rw [if_neg f1]
     go_enter Tryz.func202,Tryz.ntmps202
     go_wp2_with fail
     go_ret
     refine ⟨rfl,_,⟨vw,rfl, ?_⟩,Turn.set _ _ 5 (.int .i64 ((ct:Int)+1)) _⟩
     exact HOb.out.set 5 (.int .i64 ((ct:Int)+1))
theorem RP.cells {w:World} {b:List (Option Nat)} {r:Nat} {D:Dk} (h:RP w b r D):w.cell? ⟨r,4,none⟩=some (.bool D.down)∧w.cell? ⟨r,5,none⟩=some (.int .i64 D.count)∧(∃ A c,w.cell? ⟨r,2,none⟩=some (.slice A D.waits.length c))∧r<w.heap.size:=by
 obtain ⟨v,rfl,hO⟩:=h
 obtain ⟨c0,c1,c2,c3,c4,c5⟩:=hO.has.cells6
 obtain ⟨A,c,hv,_⟩:=own_form (hO.own 0 rfl)
 exact ⟨c4,c5,⟨A,c,by rw [c2];exact congrArg some hv⟩,hO.has.lt⟩
theorem fitsR_yes {f a n:Int} (h:fitsF f a n):fitsR f a n=true:=decide_eq_true h
theorem fitsR_no {f a n:Int} (h:¬ fitsF f a n):fitsR f a n=false:=decide_eq_false h
set_option maxHeartbeats 400000 in
theorem refd_Fail (r:Nat) (D:Dk) (b:List (Option Nat)) (n:Int) (w:World) (h:RP w b r D):Calls Tryz.prog 24 #[.pointer (some ⟨r,0,none⟩),.int .i64 n] w (RPost w b r (D.fail n) (.tuple #[])):=by
 obtain ⟨vw,rfl,hO⟩:=h
 have HOb:=Lib.hid hO
 obtain ⟨c0,c1,c2,c3,c4,c5⟩:=hO.has.cells6
 have cf:=hO.has.frozen
 have cz:=hO.has.lt
 clear hO
 by_cases hn:n<0
 ·have E:=Lib.hid (show D.fail n={ D with fails:=-1 } by unfold Dk.fail;rw [if_pos hn])
  rw [E.out]
  go_enter Tryz.func24,Tryz.ntmps24
  go_wp2_with fail
  go_end0
  exact ⟨rfl,_,⟨vw,rfl,(HOb.out.set 3 (.int .i64 n)).set 3 (.int .i64 (-1))⟩,(Turn.set _ _ _ _ _).trans (Turn.set _ _ _ _ _)⟩
 ·have E:=Lib.hid (show D.fail n={ D with fails:=n } by unfold Dk.fail;rw [if_neg hn])
  rw [E.out]
  go_enter Tryz.func24,Tryz.ntmps24
  go_wp2_with fail
  go_end0
  exact ⟨rfl,_,⟨vw,rfl,HOb.out.set 3 (.int .i64 n)⟩,Turn.set _ _ _ _ _⟩
def NewPostR (w:World) (e:Ending) (w':World):Prop:=∃ r b,e = .returned (.pointer (some ⟨r,0,none⟩))∧RP w' b r Dk.new∧Turn [] b w w'
set_option maxHeartbeats 400000 in
theorem refd_New (w:World):Calls Tryz.prog 18 #[] w (NewPostR w):=by
 go_enter Tryz.func18,Tryz.ntmps18
 go_wp2_with fail
 go_ret
 refine ⟨_,_,rfl,⟨.slice none 0 0,rfl,⟨Has.new _ _ _,fun r hr=>?_, ?_⟩⟩, ?_⟩
 ·simp only [List.mem_cons,List.mem_nil_iff,or_false] at hr
  subst hr;exact World.ownsRow_nil _ _ _ _
 ·simp [Apart,blks,rowA,Value.ownBlock]
 ·refine ⟨rfl,rfl,rfl,by simp,fun k hk _=>Below.heap_alloc _ _ _ hk,fun k hk=>?_⟩
  simp [blks,rowA,Value.ownBlock] at hk
  exact .inr (by omega)
end Go.Proofs.YtjihboddejaelaaGreat
