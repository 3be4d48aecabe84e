/-
  The reference's disk (4): Crash.
-/
import Derived.Test.YtjihboddejaelaaGreatPr3
set_option linter.unusedVariables false
set_option linter.unusedSimpArgs false
namespace Go.Proofs.YtjihboddejaelaaGreat
open Go.RowKit
open Go.BigFrame
set_option maxRecDepth 100000 in
set_option maxHeartbeats 6400000 in
theorem refd_Crash (r:Nat) (D:Dk) (b:List (Option Nat)) (A:Option Addr) (n c:Nat) (ks:List Int) (w:World) (h:RP w b r D) (hok:D.ok) (hws:D.waits.length≤1000000000) (hK:IS w A n ks) (hn:n≤9223372036854775807) (hA:0<n→∀ k,blkOf A=some k→some k∉b) :
 Calls Tryz.prog 26 #[.pointer (some ⟨r,0,none⟩),.slice A n c] w (RPost w b r (D.crash ks) (.tuple #[])):=by
 obtain ⟨v4,rfl,hO⟩:=h
 obtain ⟨A4,k4,rfl,hnc,hcs⟩:=CS.of_own (show w.ownsRow 0 160 4 v4 D.waits.length (chCells D.waits) from hO.own 0 rfl)
 have HO:=Lib.hid hO
 have OK:=Lib.hid hok
 have HK:=Lib.hid hK
 have HA:=Lib.hid hA
 obtain ⟨c0,c1,c2,c3,c4,c5⟩:=hO.has.cells6
 have cz:=hO.has.lt
 clear hO hok hK hA hcs
 go_enter Tryz.func26,Tryz.ntmps26
 go_wp2_with fail
 go_loopw [12] (fun v12 wr=>∃ (i:Nat),i≤D.waits.length∧v12 = .int .i64 i ∧
  Ob wr r 136 (rCells (crashL ks (D.waits.take i) 0 0 D.l0) (crashL ks (D.waits.take i) 0 1 D.l1) D.fails D.down D.count (.slice A4 D.waits.length k4)) [rowA (.slice A4 D.waits.length k4) D.waits] ∧
  Turn (blks r [rowA (.slice A4 D.waits.length k4) D.waits]) (blks r [rowA (.slice A4 D.waits.length k4) D.waits]) w wr) (fun v12 _=>D.waits.length-(intOf v12).toNat)
 case atStart=>exact ⟨0,Nat.zero_le _,rfl,HO.out,Turn.refl _ _⟩
 case round =>
  clear c0 c1 c2 c3 c4 c5 cz
  obtain ⟨i,hin,rfl,ho,ht⟩:=hrel
  have HOr:=Lib.hid ho
  have HT:=Lib.hid ht
  obtain ⟨c0,c1,c2,c3,c4,c5⟩:=ho.has.cells6
  have cz:=ho.has.lt
  have cf:=ho.has.frozen
  have HKr:=Lib.hid (HK.out.turn ht HA.out)
  clear ho ht
  by_cases hi2:i<D.waits.length
  ·obtain ⟨A4',k4',e4,_,hcs⟩:=CS.of_own (show wr.ownsRow 0 160 4 (.slice A4 D.waits.length k4) D.waits.length (chCells D.waits) from HOr.out.own 0 rfl)
   cases e4
   obtain ⟨b4,o4,rfl,hb4,hcc⟩:=hcs.2 (by omega)
   obtain ⟨d0,d1,d2,d3⟩:=hcc i D.waits[i] (by simp [hi2])
   have C0:=Lib.hid (crashL_snoc ks hi2 0 D.l0)
   have C1:=Lib.hid (crashL_snoc ks hi2 1 D.l1)
   have FX:=Lib.hid (OK.out.waits D.waits[i] (List.getElem_mem hi2))
   obtain ⟨x,hx⟩:∃ x,D.waits[i]=x:=⟨_,rfl⟩
   simp only [hx] at d0 d1 d2 d3 C0 C1 FX
   have L0:=Lib.hid (crashL_fits ks (D.waits.take i) 0 0 D.l0 (fun c hc=>OK.out.waits c (List.mem_of_mem_take hc)) OK.out.l0)
   have L1:=Lib.hid (crashL_fits ks (D.waits.take i) 0 1 D.l1 (fun c hc=>OK.out.waits c (List.mem_of_mem_take hc)) OK.out.l1)
   have hxf:x.file<2:=FX.out.1
   clear hcc hcs hx
   obtain ⟨how,hhow⟩:∃ x,howL ks i=x:=⟨_,rfl⟩
   rw [hhow] at C0 C1
   have HHOW:=Lib.hid hhow
   clear hhow
   by_cases hn0:n=0
   ·have h0:how=0:=by rw [← HHOW.out];exact howL_none (by rw [HKr.out.1];exact hn0) i
    subst hn0 h0
    have E0:=Lib.hid (show crashL ks (D.waits.take (i+1)) 0 0 D.l0=crashL ks (D.waits.take i) 0 0 D.l0 by rw [C0.out];exact crash1_no (by omega) (by omega))
    have E1:=Lib.hid (show crashL ks (D.waits.take (i+1)) 0 1 D.l1=crashL ks (D.waits.take i) 0 1 D.l1 by rw [C1.out];exact crash1_no (by omega) (by omega))
    clear C0 C1
    go_wp2_with fail
    go_roundw
    case rel=>exact ⟨i+1,by omega,by simp,by rw [E0.out,E1.out];exact HOr.out.alloc _,HT.out.trans (Turn.below _ (below_mk _ _))⟩
    case measure=>simp [intOf];omega
   ·obtain ⟨bk,ok,rfl,hbk,hkc⟩:=HKr.out.2 (by omega)
    have hkn:i % n<ks.length:=by rw [HKr.out.1];exact Nat.mod_lt _ (by omega)
    have kc:=hkc (i % n) how (by rw [← HHOW.out,howL_some HKr.out.1 (by omega),List.getD_eq_getElem?_getD,List.getElem?_eq_getElem hkn];rfl)
    have ke:(i:Int) % (n:Int)=((i % n:Nat):Int):=by simp
    have n0:(0:Int)<(n:Int):=by omega
    have n1:((n:Int) == 0)=false:=by rw [beq_eq_false_iff_ne];omega
    have kl:i % n<n:=Nat.mod_lt _ (by omega)
    clear hkc hkn hn0
    obtain ⟨q,hq⟩:∃ q,i % n=q:=⟨_,rfl⟩
    rw [hq] at kc ke kl
    clear hq
    by_cases h1:how=1
    ·subst h1
     have FC:=Lib.hid (show (x).fits from FX.out)
     rcases (show x.file=0∨x.file=1 by omega) with hf | hf
     ·have xf:(x.file:Int)=0:=by omega
      have E0:=Lib.hid (show crashL ks (D.waits.take (i+1)) 0 0 D.l0=(x).done (crashL ks (D.waits.take i) 0 0 D.l0) by rw [C0.out];exact crash1_one hf)
      have E1:=Lib.hid (show crashL ks (D.waits.take (i+1)) 0 1 D.l1=crashL ks (D.waits.take i) 0 1 D.l1 by rw [C1.out];exact crash1_far (by omega))
      obtain ⟨S,hS⟩:∃ S,bsOf (crashL ks (D.waits.take i) 0 0 D.l0)=S:=⟨_,rfl⟩
      have T2:Hid (∀ (w1:World),Calls Tryz.prog 88 #[.agg #[.int .i64 0,.int .i64 x.at_,.string x.text,.bool x.cut],.string S] w1 (fun e w'=>e = .returned (.string (bsOf ((x).done (crashL ks (D.waits.take i) 0 0 D.l0))))∧Below w1.heap.size w1 w')):=fun w1=>by
       have h2:=ref_on (x) _ L0.out FC.out w1
       unfold actVal at h2
       rw [show ((x).file:Int)=0 from xf,show (x).at_=x.at_ from rfl,show (x).text=x.text from rfl,show (x).cut=x.cut from rfl,hS] at h2
       exact h2
      rw [hS] at c0
      clear C0 C1 hf hxf hS
      go_upto_region 9 with fail
      have HOx:=Lib.hid (HOr.out.alloc (.cells #[.int .i64 0,.int .i64 x.at_,.string x.text,.bool x.cut] 160))
      have HXx:=Lib.hid (Has.new wr 160 #[.int .i64 0,.int .i64 x.at_,.string x.text,.bool x.cut])
      have HTx:=Lib.hid (HT.out.trans (Turn.below _ (below_mk wr (.cells #[.int .i64 0,.int .i64 x.at_,.string x.text,.bool x.cut] 160))))
      have hcS:(wr.alloc (.cells #[.int .i64 0,.int .i64 x.at_,.string x.text,.bool x.cut] 160)).cell? ⟨r,0,none⟩=some (.string S):=((below_mk wr _).cell (p:=⟨r,0,none⟩) cz).trans c0
      clear c0 c1 c2 c3 c4 c5 cz cf d0 d1 d2 d3
      generalize wr.alloc (.cells #[.int .i64 0,.int .i64 x.at_,.string x.text,.bool x.cut] 160)=W at *
      obtain ⟨x0,x1,x2,x3⟩:=HXx.out.cells4r
      have xz:=HXx.out.lt
      have cz:=HOx.out.has.lt
      have cf:=HOx.out.has.frozen
      go_region_law
       (first | (go_simp;go_at_call 88;(with_reducible refine (T2.out _).mono ?_);rintro e w5 ⟨rfl,hb5⟩;have HR:=Lib.hid ((HOx.out.below (Below.refl _ _).drew).below hb5);have HB5:=Lib.hid hb5;have gf5:=HR.out.has.frozen;have gc5:=HR.out.has.cells6;obtain ⟨g0,g1,g2,g3,g4,g5⟩:=gc5;have gz5:=HR.out.has.lt;have HX5:=Lib.hid ((HXx.out.drew).belowS hb5);obtain ⟨y0,y1,y2,y3⟩:=HX5.out.cells4r;have yz:=HX5.out.lt))
      all_goals
       go_wp2_with fail
       go_roundw
       case rel=>exact ⟨i+1,by omega,by simp,by rw [E0.out,E1.out];exact HR.out.set 0 _,HTx.out.trans ((Turn.below _ (Below.refl _ _).drew).trans ((Turn.below _ HB5.out).trans (Turn.set _ _ 0 _ _)))⟩
       case measure=>simp [intOf];omega
     ·have xf:(x.file:Int)=1:=by omega
      have E0:=Lib.hid (show crashL ks (D.waits.take (i+1)) 0 0 D.l0=crashL ks (D.waits.take i) 0 0 D.l0 by rw [C0.out];exact crash1_far (by omega))
      have E1:=Lib.hid (show crashL ks (D.waits.take (i+1)) 0 1 D.l1=(x).done (crashL ks (D.waits.take i) 0 1 D.l1) by rw [C1.out];exact crash1_one hf)
      obtain ⟨S,hS⟩:∃ S,bsOf (crashL ks (D.waits.take i) 0 1 D.l1)=S:=⟨_,rfl⟩
      have T2:Hid (∀ (w1:World),Calls Tryz.prog 88 #[.agg #[.int .i64 1,.int .i64 x.at_,.string x.text,.bool x.cut],.string S] w1 (fun e w'=>e = .returned (.string (bsOf ((x).done (crashL ks (D.waits.take i) 0 1 D.l1))))∧Below w1.heap.size w1 w')):=fun w1=>by
       have h2:=ref_on (x) _ L1.out FC.out w1
       unfold actVal at h2
       rw [show ((x).file:Int)=1 from xf,show (x).at_=x.at_ from rfl,show (x).text=x.text from rfl,show (x).cut=x.cut from rfl,hS] at h2
       exact h2
      rw [hS] at c1
      clear C0 C1 hf hxf hS
      go_upto_region 9 with fail
      have HOx:=Lib.hid (HOr.out.alloc (.cells #[.int .i64 1,.int .i64 x.at_,.string x.text,.bool x.cut] 160))
      have HXx:=Lib.hid (Has.new wr 160 #[.int .i64 1,.int .i64 x.at_,.string x.text,.bool x.cut])
      have HTx:=Lib.hid (HT.out.trans (Turn.below _ (below_mk wr (.cells #[.int .i64 1,.int .i64 x.at_,.string x.text,.bool x.cut] 160))))
      have hcS:(wr.alloc (.cells #[.int .i64 1,.int .i64 x.at_,.string x.text,.bool x.cut] 160)).cell? ⟨r,1,none⟩=some (.string S):=((below_mk wr _).cell (p:=⟨r,1,none⟩) cz).trans c1
      clear c0 c1 c2 c3 c4 c5 cz cf d0 d1 d2 d3
      generalize wr.alloc (.cells #[.int .i64 1,.int .i64 x.at_,.string x.text,.bool x.cut] 160)=W at *
      obtain ⟨x0,x1,x2,x3⟩:=HXx.out.cells4r
      have xz:=HXx.out.lt
      have cz:=HOx.out.has.lt
      have cf:=HOx.out.has.frozen
      go_region_law
       (first | (go_simp;go_at_call 88;(with_reducible refine (T2.out _).mono ?_);rintro e w5 ⟨rfl,hb5⟩;have HR:=Lib.hid ((HOx.out.below (Below.refl _ _).drew).below hb5);have HB5:=Lib.hid hb5;have gf5:=HR.out.has.frozen;have gc5:=HR.out.has.cells6;obtain ⟨g0,g1,g2,g3,g4,g5⟩:=gc5;have gz5:=HR.out.has.lt;have HX5:=Lib.hid ((HXx.out.drew).belowS hb5);obtain ⟨y0,y1,y2,y3⟩:=HX5.out.cells4r;have yz:=HX5.out.lt))
      all_goals
       go_wp2_with fail
       go_roundw
       case rel=>exact ⟨i+1,by omega,by simp,by rw [E0.out,E1.out];exact HR.out.set 1 _,HTx.out.trans ((Turn.below _ (Below.refl _ _).drew).trans ((Turn.below _ HB5.out).trans (Turn.set _ _ 1 _ _)))⟩
       case measure=>simp [intOf];omega
    ·by_cases h2:how=2
     ·subst h2
      cases hcut:x.cut with
      | true =>
        have HC:=Lib.hid (half_cut hcut)
        rw [hcut] at d3
        have FC:=Lib.hid (show (x).fits from FX.out)
        rcases (show x.file=0∨x.file=1 by omega) with hf | hf
        ·have xf:(x.file:Int)=0:=by omega
         have E0:=Lib.hid (show crashL ks (D.waits.take (i+1)) 0 0 D.l0=(x).done (crashL ks (D.waits.take i) 0 0 D.l0) by rw [C0.out];exact (crash1_two hf).trans (by rw [HC.out]))
         have E1:=Lib.hid (show crashL ks (D.waits.take (i+1)) 0 1 D.l1=crashL ks (D.waits.take i) 0 1 D.l1 by rw [C1.out];exact crash1_far (by omega))
         obtain ⟨S,hS⟩:∃ S,bsOf (crashL ks (D.waits.take i) 0 0 D.l0)=S:=⟨_,rfl⟩
         have T2:Hid (∀ (w1:World),Calls Tryz.prog 88 #[.agg #[.int .i64 0,.int .i64 x.at_,.string x.text,.bool true],.string S] w1 (fun e w'=>e = .returned (.string (bsOf ((x).done (crashL ks (D.waits.take i) 0 0 D.l0))))∧Below w1.heap.size w1 w')):=fun w1=>by
          have h2:=ref_on (x) _ L0.out FC.out w1
          unfold actVal at h2
          rw [show ((x).file:Int)=0 from xf,show (x).at_=x.at_ from rfl,show (x).text=x.text from rfl,hcut,hS] at h2
          exact h2
         rw [hS] at c0
         clear C0 C1 hf hxf hS
         go_upto_region 9 with fail
         have HOx:=Lib.hid (HOr.out.alloc (.cells #[.int .i64 0,.int .i64 x.at_,.string x.text,.bool true] 160))
         have HXx:=Lib.hid (Has.new wr 160 #[.int .i64 0,.int .i64 x.at_,.string x.text,.bool true])
         have HTx:=Lib.hid (HT.out.trans (Turn.below _ (below_mk wr (.cells #[.int .i64 0,.int .i64 x.at_,.string x.text,.bool true] 160))))
         have hcS:(wr.alloc (.cells #[.int .i64 0,.int .i64 x.at_,.string x.text,.bool true] 160)).cell? ⟨r,0,none⟩=some (.string S):=((below_mk wr _).cell (p:=⟨r,0,none⟩) cz).trans c0
         clear c0 c1 c2 c3 c4 c5 cz cf d0 d1 d2 d3
         generalize wr.alloc (.cells #[.int .i64 0,.int .i64 x.at_,.string x.text,.bool true] 160)=W at *
         obtain ⟨x0,x1,x2,x3⟩:=HXx.out.cells4r
         have xz:=HXx.out.lt
         have cz:=HOx.out.has.lt
         have cf:=HOx.out.has.frozen
         go_region_law
          (first | (go_simp;go_at_call 88;(with_reducible refine (T2.out _).mono ?_);rintro e w5 ⟨rfl,hb5⟩;have HR:=Lib.hid ((HOx.out.below (Below.refl _ _).drew).below hb5);have HB5:=Lib.hid hb5;have gf5:=HR.out.has.frozen;have gc5:=HR.out.has.cells6;obtain ⟨g0,g1,g2,g3,g4,g5⟩:=gc5;have gz5:=HR.out.has.lt;have HX5:=Lib.hid ((HXx.out.drew).belowS hb5);obtain ⟨y0,y1,y2,y3⟩:=HX5.out.cells4r;have yz:=HX5.out.lt))
         all_goals
          go_wp2_with fail
          go_roundw
          case rel=>exact ⟨i+1,by omega,by simp,by rw [E0.out,E1.out];exact HR.out.set 0 _,HTx.out.trans ((Turn.below _ (Below.refl _ _).drew).trans ((Turn.below _ HB5.out).trans (Turn.set _ _ 0 _ _)))⟩
          case measure=>simp [intOf];omega
        ·have xf:(x.file:Int)=1:=by omega
         have E0:=Lib.hid (show crashL ks (D.waits.take (i+1)) 0 0 D.l0=crashL ks (D.waits.take i) 0 0 D.l0 by rw [C0.out];exact crash1_far (by omega))
         have E1:=Lib.hid (show crashL ks (D.waits.take (i+1)) 0 1 D.l1=(x).done (crashL ks (D.waits.take i) 0 1 D.l1) by rw [C1.out];exact (crash1_two hf).trans (by rw [HC.out]))
         obtain ⟨S,hS⟩:∃ S,bsOf (crashL ks (D.waits.take i) 0 1 D.l1)=S:=⟨_,rfl⟩
         have T2:Hid (∀ (w1:World),Calls Tryz.prog 88 #[.agg #[.int .i64 1,.int .i64 x.at_,.string x.text,.bool true],.string S] w1 (fun e w'=>e = .returned (.string (bsOf ((x).done (crashL ks (D.waits.take i) 0 1 D.l1))))∧Below w1.heap.size w1 w')):=fun w1=>by
          have h2:=ref_on (x) _ L1.out FC.out w1
          unfold actVal at h2
          rw [show ((x).file:Int)=1 from xf,show (x).at_=x.at_ from rfl,show (x).text=x.text from rfl,hcut,hS] at h2
          exact h2
         rw [hS] at c1
         clear C0 C1 hf hxf hS
         go_upto_region 9 with fail
         have HOx:=Lib.hid (HOr.out.alloc (.cells #[.int .i64 1,.int .i64 x.at_,.string x.text,.bool true] 160))
         have HXx:=Lib.hid (Has.new wr 160 #[.int .i64 1,.int .i64 x.at_,.string x.text,.bool true])
         have HTx:=Lib.hid (HT.out.trans (Turn.below _ (below_mk wr (.cells #[.int .i64 1,.int .i64 x.at_,.string x.text,.bool true] 160))))
         have hcS:(wr.alloc (.cells #[.int .i64 1,.int .i64 x.at_,.string x.text,.bool true] 160)).cell? ⟨r,1,none⟩=some (.string S):=((below_mk wr _).cell (p:=⟨r,1,none⟩) cz).trans c1
         clear c0 c1 c2 c3 c4 c5 cz cf d0 d1 d2 d3
         generalize wr.alloc (.cells #[.int .i64 1,.int .i64 x.at_,.string x.text,.bool true] 160)=W at *
         obtain ⟨x0,x1,x2,x3⟩:=HXx.out.cells4r
         have xz:=HXx.out.lt
         have cz:=HOx.out.has.lt
         have cf:=HOx.out.has.frozen
         go_region_law
          (first | (go_simp;go_at_call 88;(with_reducible refine (T2.out _).mono ?_);rintro e w5 ⟨rfl,hb5⟩;have HR:=Lib.hid ((HOx.out.below (Below.refl _ _).drew).below hb5);have HB5:=Lib.hid hb5;have gf5:=HR.out.has.frozen;have gc5:=HR.out.has.cells6;obtain ⟨g0,g1,g2,g3,g4,g5⟩:=gc5;have gz5:=HR.out.has.lt;have HX5:=Lib.hid ((HXx.out.drew).belowS hb5);obtain ⟨y0,y1,y2,y3⟩:=HX5.out.cells4r;have yz:=HX5.out.lt))
         all_goals
          go_wp2_with fail
          go_roundw
          case rel=>exact ⟨i+1,by omega,by simp,by rw [E0.out,E1.out];exact HR.out.set 1 _,HTx.out.trans ((Turn.below _ (Below.refl _ _).drew).trans ((Turn.below _ HB5.out).trans (Turn.set _ _ 1 _ _)))⟩
          case measure=>simp [intOf];omega
      | false =>
        have HC:=Lib.hid (half_text hcut)
        rw [hcut] at d3
        obtain ⟨tx,htx⟩:∃ t,x.text.extract 0 (x.text.size / 2)=t:=⟨_,rfl⟩
        rw [htx] at HC
        have hsz:=FX.out.2.2.1
        have hs1:x.text.size / 2≤x.text.size:=by omega
        have hh:=Lib.hid (half_fits FX.out)
        rw [HC.out] at hh
        have FC:=Lib.hid (show ({ x with text:=tx,cut:=false }:Ch).fits from hh.out)
        rcases (show x.file=0∨x.file=1 by omega) with hf | hf
        ·have xf:(x.file:Int)=0:=by omega
         have E0:=Lib.hid (show crashL ks (D.waits.take (i+1)) 0 0 D.l0=({ x with text:=tx,cut:=false }:Ch).done (crashL ks (D.waits.take i) 0 0 D.l0) by rw [C0.out];exact (crash1_two hf).trans (by rw [HC.out]))
         have E1:=Lib.hid (show crashL ks (D.waits.take (i+1)) 0 1 D.l1=crashL ks (D.waits.take i) 0 1 D.l1 by rw [C1.out];exact crash1_far (by omega))
         obtain ⟨S,hS⟩:∃ S,bsOf (crashL ks (D.waits.take i) 0 0 D.l0)=S:=⟨_,rfl⟩
         have T2:Hid (∀ (w1:World),Calls Tryz.prog 88 #[.agg #[.int .i64 0,.int .i64 x.at_,.string tx,.bool false],.string S] w1 (fun e w'=>e = .returned (.string (bsOf (({ x with text:=tx,cut:=false }:Ch).done (crashL ks (D.waits.take i) 0 0 D.l0))))∧Below w1.heap.size w1 w')):=fun w1=>by
          have h2:=ref_on ({ x with text:=tx,cut:=false }:Ch) _ L0.out FC.out w1
          unfold actVal at h2
          rw [show (({ x with text:=tx,cut:=false }:Ch).file:Int)=0 from xf,show ({ x with text:=tx,cut:=false }:Ch).at_=x.at_ from rfl,show ({ x with text:=tx,cut:=false }:Ch).text=tx from rfl,show ({ x with text:=tx,cut:=false }:Ch).cut=false from rfl,hS] at h2
          exact h2
         rw [hS] at c0
         clear C0 C1 hf hxf hS HC hh hcut
         go_upto_region 9 with fail
         have HOx:=Lib.hid (HOr.out.alloc (.cells #[.int .i64 0,.int .i64 x.at_,.string tx,.bool false] 160))
         have HXx:=Lib.hid (Has.new wr 160 #[.int .i64 0,.int .i64 x.at_,.string tx,.bool false])
         have HTx:=Lib.hid (HT.out.trans (Turn.below _ (below_mk wr (.cells #[.int .i64 0,.int .i64 x.at_,.string tx,.bool false] 160))))
         have hcS:(wr.alloc (.cells #[.int .i64 0,.int .i64 x.at_,.string tx,.bool false] 160)).cell? ⟨r,0,none⟩=some (.string S):=((below_mk wr _).cell (p:=⟨r,0,none⟩) cz).trans c0
         clear c0 c1 c2 c3 c4 c5 cz cf d0 d1 d2 d3
         generalize wr.alloc (.cells #[.int .i64 0,.int .i64 x.at_,.string tx,.bool false] 160)=W at *
         obtain ⟨x0,x1,x2,x3⟩:=HXx.out.cells4r
         have xz:=HXx.out.lt
         have cz:=HOx.out.has.lt
         have cf:=HOx.out.has.frozen
         go_region_law
          (first | (go_simp;go_at_call 88;(with_reducible refine (T2.out _).mono ?_);rintro e w5 ⟨rfl,hb5⟩;have HR:=Lib.hid ((HOx.out.below (Below.refl _ _).drew).below hb5);have HB5:=Lib.hid hb5;have gf5:=HR.out.has.frozen;have gc5:=HR.out.has.cells6;obtain ⟨g0,g1,g2,g3,g4,g5⟩:=gc5;have gz5:=HR.out.has.lt;have HX5:=Lib.hid ((HXx.out.drew).belowS hb5);obtain ⟨y0,y1,y2,y3⟩:=HX5.out.cells4r;have yz:=HX5.out.lt))
         all_goals
          go_wp2_with fail
          go_roundw
          case rel=>exact ⟨i+1,by omega,by simp,by rw [E0.out,E1.out];exact HR.out.set 0 _,HTx.out.trans ((Turn.below _ (Below.refl _ _).drew).trans ((Turn.below _ HB5.out).trans (Turn.set _ _ 0 _ _)))⟩
          case measure=>simp [intOf];omega
        ·have xf:(x.file:Int)=1:=by omega
         have E0:=Lib.hid (show crashL ks (D.waits.take (i+1)) 0 0 D.l0=crashL ks (D.waits.take i) 0 0 D.l0 by rw [C0.out];exact crash1_far (by omega))
         have E1:=Lib.hid (show crashL ks (D.waits.take (i+1)) 0 1 D.l1=({ x with text:=tx,cut:=false }:Ch).done (crashL ks (D.waits.take i) 0 1 D.l1) by rw [C1.out];exact (crash1_two hf).trans (by rw [HC.out]))
         obtain ⟨S,hS⟩:∃ S,bsOf (crashL ks (D.waits.take i) 0 1 D.l1)=S:=⟨_,rfl⟩
         have T2:Hid (∀ (w1:World),Calls Tryz.prog 88 #[.agg #[.int .i64 1,.int .i64 x.at_,.string tx,.bool false],.string S] w1 (fun e w'=>e = .returned (.string (bsOf (({ x with text:=tx,cut:=false }:Ch).done (crashL ks (D.waits.take i) 0 1 D.l1))))∧Below w1.heap.size w1 w')):=fun w1=>by
          have h2:=ref_on ({ x with text:=tx,cut:=false }:Ch) _ L1.out FC.out w1
          unfold actVal at h2
          rw [show (({ x with text:=tx,cut:=false }:Ch).file:Int)=1 from xf,show ({ x with text:=tx,cut:=false }:Ch).at_=x.at_ from rfl,show ({ x with text:=tx,cut:=false }:Ch).text=tx from rfl,show ({ x with text:=tx,cut:=false }:Ch).cut=false from rfl,hS] at h2
          exact h2
         rw [hS] at c1
         clear C0 C1 hf hxf hS HC hh hcut
         go_upto_region 9 with fail
         have HOx:=Lib.hid (HOr.out.alloc (.cells #[.int .i64 1,.int .i64 x.at_,.string tx,.bool false] 160))
         have HXx:=Lib.hid (Has.new wr 160 #[.int .i64 1,.int .i64 x.at_,.string tx,.bool false])
         have HTx:=Lib.hid (HT.out.trans (Turn.below _ (below_mk wr (.cells #[.int .i64 1,.int .i64 x.at_,.string tx,.bool false] 160))))
         have hcS:(wr.alloc (.cells #[.int .i64 1,.int .i64 x.at_,.string tx,.bool false] 160)).cell? ⟨r,1,none⟩=some (.string S):=((below_mk wr _).cell (p:=⟨r,1,none⟩) cz).trans c1
         clear c0 c1 c2 c3 c4 c5 cz cf d0 d1 d2 d3
         generalize wr.alloc (.cells #[.int .i64 1,.int .i64 x.at_,.string tx,.bool false] 160)=W at *
         obtain ⟨x0,x1,x2,x3⟩:=HXx.out.cells4r
         have xz:=HXx.out.lt
         have cz:=HOx.out.has.lt
         have cf:=HOx.out.has.frozen
         go_region_law
          (first | (go_simp;go_at_call 88;(with_reducible refine (T2.out _).mono ?_);rintro e w5 ⟨rfl,hb5⟩;have HR:=Lib.hid ((HOx.out.below (Below.refl _ _).drew).below hb5);have HB5:=Lib.hid hb5;have gf5:=HR.out.has.frozen;have gc5:=HR.out.has.cells6;obtain ⟨g0,g1,g2,g3,g4,g5⟩:=gc5;have gz5:=HR.out.has.lt;have HX5:=Lib.hid ((HXx.out.drew).belowS hb5);obtain ⟨y0,y1,y2,y3⟩:=HX5.out.cells4r;have yz:=HX5.out.lt))
         all_goals
          go_wp2_with fail
          go_roundw
          case rel=>exact ⟨i+1,by omega,by simp,by rw [E0.out,E1.out];exact HR.out.set 1 _,HTx.out.trans ((Turn.below _ (Below.refl _ _).drew).trans ((Turn.below _ HB5.out).trans (Turn.set _ _ 1 _ _)))⟩
          case measure=>simp [intOf];omega
     ·have hh1:(how != 1)=true:=by rw [bne_iff_ne];exact h1
      have hh2:(how != 2)=true:=by rw [bne_iff_ne];exact h2
      have hh3:(how == 1)=false:=by rw [beq_eq_false_iff_ne];exact h1
      have hh4:(how == 2)=false:=by rw [beq_eq_false_iff_ne];exact h2
      have E0:=Lib.hid (show crashL ks (D.waits.take (i+1)) 0 0 D.l0=crashL ks (D.waits.take i) 0 0 D.l0 by rw [C0.out];exact crash1_no (by omega) (by omega))
      have E1:=Lib.hid (show crashL ks (D.waits.take (i+1)) 0 1 D.l1=crashL ks (D.waits.take i) 0 1 D.l1 by rw [C1.out];exact crash1_no (by omega) (by omega))
      clear C0 C1
      go_wp2_with fail
      go_roundw
      case rel=>exact ⟨i+1,by omega,by simp,by rw [E0.out,E1.out];exact HOr.out.alloc _,HT.out.trans (Turn.below _ (below_mk _ _))⟩
      case measure=>simp [intOf];omega
  ·obtain rfl:i=D.waits.length:=by omega
   have E0:=Lib.hid (show crashL ks (D.waits.take D.waits.length) 0 0 D.l0=(D.crash ks).l0 by rw [List.take_length];rfl)
   have E1:=Lib.hid (show crashL ks (D.waits.take D.waits.length) 0 1 D.l1=(D.crash ks).l1 by rw [List.take_length];rfl)
   have EQ:=Lib.hid (show (D.crash ks).waits=[]∧(D.crash ks).fails = -1∧(D.crash ks).down=false∧(D.crash ks).count=D.count from ⟨rfl,rfl,rfl,rfl⟩)
   rw [E0.out,E1.out] at HOr
   obtain ⟨E,hE⟩:∃ E,D.crash ks=E:=⟨_,rfl⟩
   rw [hE] at HOr EQ
   have HE:=Lib.hid hE
   clear E0 E1 hE HKr c0 c1 c2 c3 c4 c5
   obtain ⟨c0,c1,c2,c3,c4,c5⟩:=HOr.out.has.cells6
   go_wp2_with fail
   go_end0
   refine ⟨rfl,_, ?_,(((HT.out.swap 0 (r':=rowA (.slice none 0 0) []) (fun k hk=>by cases hk)).trans (Turn.set _ _ 2 _ _)).trans (Turn.set _ _ 3 _ _)).trans (Turn.set _ _ 4 _ _)⟩
   unfold RP
   rw [HE.out,EQ.out.1,EQ.out.2.1,EQ.out.2.2.1,EQ.out.2.2.2]
   exact ⟨_,rfl,(((HOr.out.swap 0 (r':=rowA (.slice none 0 0) []) rfl (World.ownsRow_nil _ _ _ _) (fun k hk=>by cases hk)).set 2 _).set 3 _).set 4 _⟩
end Go.Proofs.YtjihboddejaelaaGreat
