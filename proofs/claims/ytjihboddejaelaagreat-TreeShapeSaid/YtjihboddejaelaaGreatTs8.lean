/-
  Open of package wal, over a disk that does not fail.
-/
import Derived.Test.YtjihboddejaelaaGreatTs1
import Derived.Test.YtjihboddejaelaaGreatTs5
import Derived.Test.YtjihboddejaelaaGreatTs7
import Derived.Test.YtjihboddejaelaaGreatShelf
import Derived.Test.YtjihboddejaelaaGreatTs6
set_option linter.unusedVariables false
set_option linter.unusedSimpArgs false
set_option maxRecDepth 100000
set_option maxHeartbeats 100000000
namespace Go.Proofs.YtjihboddejaelaaGreat
open Go.RowKit Go.BigFrame Go.Maps
theorem SY0 (w:World):(Instr.makeMap 104 none).run Tryz.prog w = .ok (.map (some w.heap.size)) (w.alloc (.map #[] 0)):=rfl
def XK0 (gd m2 kf kp sl nu:Nat):Array Value:=#[.pointer (some ⟨gd,0,none⟩),.int .i64 0,.int .i64 0,.map none,.int .i64 kf,.int .i64 kp,.map (some m2),.int .i64 sl,.int .i64 nu]
structure Half (w:World) (b:List (Option Nat)) (gd g m2:Nat) (D:Dk) (kf kp sl nu n:Nat) (f2:Int→Nat):Prop where
 disk:DP w b gd D
 has:Has w g 181 (XK0 gd m2 kf kp sl nu)
 map2:MP w m2 n f2
 offg:some g∉b
 offm:some m2∉b
section
variable {w w':World} {b b':List (Option Nat)} {gd g m2 kf kp sl nu n:Nat} {D D':Dk} {f2:Int→Nat}
theorem Half.below (h:Half w b gd g m2 D kf kp sl nu n f2) (hb:Below w.heap.size w w'):Half w' b gd g m2 D kf kp sl nu n f2 :=
 ⟨h.disk.below hb,h.has.Aj hb,h.map2.below hb,h.offg,h.offm⟩
theorem Half.ne (h:Half w b gd g m2 D kf kp sl nu n f2):g≠m2:=OX0 h.has h.map2
theorem Half.put (h:Half w b gd g m2 D kf kp sl nu n f2) {n':Nat} {f':Int→Nat} (hm:MP w' m2 n' f') (hg:w.grownBy w' (some m2)):Half w' b gd g m2 D kf kp sl nu n' f':=by
 have ht:=Turn.grown hg
 refine ⟨h.disk.turn ht fun k hk h2=>?_,h.has.grown hg (fun e=>h.ne (Option.some.inj e)),hm,h.offg,h.offm⟩
 have:k=m2:=by simpa using hk
 subst this;exact h.offm h2
theorem Half.lt (h:Half w b gd g m2 D kf kp sl nu n f2) {k:Nat} (hk:some k∈b++[some g,some m2]):k<w.heap.size:=by
 rcases List.mem_append.1 hk with h2 | h2
 ·exact h.disk.lt h2
 ·simp at h2
  rcases h2 with rfl | rfl
  ·exact h.has.lt
  ·exact h.map2.lt
theorem Half.log {w0:World} {c:List (Option Nat)} {m:Nat} (h:Half w b gd g m2 D kf kp sl nu kf f2) (ht:Turn c (b++[some g,some m2]) w0 w) (hm:MP w m kf f2) (hoff:some m∉b++[some g,some m2]) (hlow:w0.heap.size≤m) :
 LR (((w.setCell ⟨g,1,none⟩ (.int .i64 kf)).setCell ⟨g,2,none⟩ (.int .i64 kp)).setCell ⟨g,3,none⟩ (.map (some m))) b gd g m m2 ⟨D,kf,kp,f2,kf,kp,f2,sl,nu⟩ ∧
 Turn c (b++lb g m m2) w0 (((w.setCell ⟨g,1,none⟩ (.int .i64 kf)).setCell ⟨g,2,none⟩ (.int .i64 kp)).setCell ⟨g,3,none⟩ (.map (some m))):=by
 have t1:Turn [some g] [some g] w (((w.setCell ⟨g,1,none⟩ (.int .i64 kf)).setCell ⟨g,2,none⟩ (.int .i64 kp)).setCell ⟨g,3,none⟩ (.map (some m))):=((Turn.cell g 1 _ w).trans (Turn.cell g 2 _ _)).trans (Turn.cell g 3 _ _)
 have hg:some g∈b++[some g,some m2]:=List.mem_append_right _ (by simp)
 have hmg:m≠g:=by rintro rfl;exact hoff hg
 have hm2:m≠m2:=by rintro rfl;exact hoff (List.mem_append_right _ (by simp))
 refine ⟨⟨h.disk.turn t1 fun k hk h2=>?_,((h.has.set 1 _).set 2 _).set 3 _,hm.turn t1 fun h3=>hmg (by simpa using h3),h.map2.turn t1 fun h3=>h.ne (by simpa using h3:m2=g).symm,hm2,fun k hk h2=>?_⟩, ?_⟩
 ·have:k=g:=by simpa using hk
  subst this;exact h.offg h2
 ·rcases Lm.1 h2 with rfl | rfl | rfl
  ·exact h.offg hk
  ·exact hoff (List.mem_append_left _ hk)
  ·exact h.offm hk
 ·refine ht.trans' t1 (fun k hk=>?_) (fun k hk=>?_)
  ·have:k=g:=by simpa using hk
   subst this;exact hg
  ·rcases List.mem_append.1 hk with h2 | h2
   ·exact .inl (List.mem_append_left _ h2)
   ·rcases Lm.1 h2 with rfl | rfl | rfl
    ·exact .inl hg
    ·exact .inr hlow
    ·exact .inl (List.mem_append_right _ (by simp))
end
def BQ1 (w:World) (b:List (Option Nat)) (gd:Nat) (R:Rw) (e:Ending) (w':World):Prop :=
 ∃ g b' m1 m2,e = .returned (.tuple #[.pointer (some ⟨g,0,none⟩),.int .i64 0])∧LR w' b' gd g m1 m2 R∧Turn b (b'++lb g m1 m2) w w'
theorem OM0 {l:List UInt8} {s:ByteArray} (hs:bsOf l=s) (k:Nat):((Lu l k).n:Nat)=unK ((s.extract (64+1028*k) s.size).data.toList.take 4):=by
 rw [← hs,Ku,Ew,Ew,Bv]
 show unK (Aw l (64+1028*k) 4)=unK ((Aw l (64+1028*k) (l.length-(64+1028*k))).take 4)
 congr 1
 unfold Aw;rw [List.take_take]
 by_cases h:4≤l.length-(64+1028*k)
 ·rw [Nat.min_eq_left h]
 ·rw [List.take_of_length_le (by rw [List.length_drop];omega),List.take_of_length_le (by rw [List.length_drop];omega)]
theorem TE0 (b:List (Option Nat)) (gd p0:Nat) (D:Dk) (w:World) (h:DP w b gd D) :
 Half ((w.alloc (.map #[] 0)).alloc (.cells #[.pointer (some ⟨gd,0,none⟩),.int .i64 0,.int .i64 0,.map none,.int .i64 0,.int .i64 p0,.map (some w.heap.size),.int .i64 0,.int .i64 0] 181)) b gd (w.heap.size+1) w.heap.size D 0 p0 0 0 0 (fun _=>0) ∧
 Below w.heap.size w ((w.alloc (.map #[] 0)).alloc (.cells #[.pointer (some ⟨gd,0,none⟩),.int .i64 0,.int .i64 0,.map none,.int .i64 0,.int .i64 p0,.map (some w.heap.size),.int .i64 0,.int .i64 0] 181)):=by
 have b1:Below w.heap.size w (w.alloc (.map #[] 0)):=(Below.refl _ _).alloc (Nat.le_refl _) _
 have b2:Below w.heap.size w ((w.alloc (.map #[] 0)).alloc (.cells #[.pointer (some ⟨gd,0,none⟩),.int .i64 0,.int .i64 0,.map none,.int .i64 0,.int .i64 p0,.map (some w.heap.size),.int .i64 0,.int .i64 0] 181)):=b1.alloc (by simp) _
 have hn:=Has.new (w.alloc (.map #[] 0)) 181 #[.pointer (some ⟨gd,0,none⟩),.int .i64 0,.int .i64 0,.map none,.int .i64 0,.int .i64 p0,.map (some w.heap.size),.int .i64 0,.int .i64 0];rw [World.size_alloc] at hn
 exact ⟨⟨h.below b2,hn,(MP.made w).below ((Below.refl _ _).alloc (Nat.le_refl _) _),fun h3=>by have:=h.lt h3;omega,fun h3=>by have:=h.lt h3;omega⟩,b2⟩
theorem JV0 {B:Nat} {w W w2:World} {b b2:List (Option Nat)} {g m2:Nat} (hB:w.heap.size=B) (hb:Below B w W) (ht:Turn (b++[some g]) (b2++[some g]) W w2) (hg:w.heap.size≤g) (hm:w.heap.size≤m2):Turn b (b2++[some g,some m2]) w w2:=by
 subst hB
 refine ⟨ht.os.trans hb.os,ht.tape.trans hb.tape,ht.output.trans hb.output,Nat.le_trans hb.size ht.size,fun k hk hn=>(ht.block k (Nat.lt_of_lt_of_le hk hb.size) (fun h=>?_)).trans (hb.block k hk),fun k hk=>?_⟩
 ·rcases List.mem_append.1 h with h2 | h2
  ·exact hn h2
  ·have:k=g:=by simpa using h2
   omega
 ·rcases List.mem_append.1 hk with h2 | h2
  ·rcases ht.new k (List.mem_append_left _ h2) with h3 | h3
   ·rcases List.mem_append.1 h3 with h4 | h4
    ·exact .inl h4
    ·have:k=g:=by simpa using h4
     exact .inr (by omega)
   ·exact .inr (Nat.le_trans hb.size h3)
  ·have:k=g∨k=m2:=by simpa using h2
   exact .inr (by omega)
theorem PA0 {fs:List Fr} {k:Nat} (hk:k<fs.length) {f:Fr} (hf:fs[k]? = some f) (x:Int) (hx:(f.n:Int)=x):(fun y=>if y=x then k+1 else Bc (fs.take k) y)=fun y=>Bc (fs.take (k+1)) y:=by
 funext y
 obtain ⟨h1,h2⟩:=List.getElem?_eq_some_iff.1 hf
 rw [List.take_succ_eq_append_getElem h1,h2,Nv,hx,List.length_take,Nat.min_eq_left (by omega)]
 by_cases h:y=x
 ·rw [if_pos h,if_pos h.symm]
 ·rw [if_neg h,if_neg (fun e=>h e.symm)]
theorem TR0 {D:Dk} (hok:D.ok) {f:Nat} (hf:f<2) (hd:D.down=false):D.Gy f 0 (D.seen f).length=bsOf (D.seen f)∧D.Ej f 0 (D.seen f).length=0:=by
 have hl:=hok.seen f
 have hF:Lr f 0 (D.seen f).length:=by unfold Lr;omega
 refine ⟨(if_pos ⟨hF,hd,by simp⟩).trans (by simp), ?_⟩
 unfold Dk.Ej
 rw [if_pos hF,if_neg (by rw [hd];decide),if_pos (by simp)]
theorem VU0 (b:List (Option Nat)) (gd:Nat) (D:Dk) (w:World) (h:DP w b gd D) (hfit:Fit D 4) (hd:D.down=false) (hc:Bj (D.seen 1)=2→D.calm) :
 Calls Tryz.prog 38 #[.pointer (some ⟨gd,0,none⟩)] w (BQ1 w b gd (Lg.opened D).rw):=by
 have s0:D.Wl 0=((D.seen 0).length:Int)∧D.Si 0=0:=⟨if_pos ⟨by omega,by omega,hd⟩,(if_pos (by omega)).trans (if_neg (by rw [hd];decide))⟩
 have s1:D.Wl 1=((D.seen 1).length:Int)∧D.Si 1=0:=⟨if_pos ⟨by omega,by omega,hd⟩,(if_pos (by omega)).trans (if_neg (by rw [hd];decide))⟩
 have s2:=TR0 hfit.ok (f:=1) (by omega) hd
 have T0:=Ac (DN0 gd D b 0 w h hfit.ok);have T1:=Ac (DN0 gd D b 1 w h hfit.ok);have T2:=Ac (CJ0 gd D b 1 0 (D.seen 1).length w h hfit.ok);rw [s0.1,s0.2] at T0;rw [s1.1,s1.2] at T1
 rw [show ((1:Nat):Int)=1 from rfl] at s2
 rw [s2.1,s2.2] at T2;have l0:=hfit.ok.seen 0;have l1:=hfit.ok.seen 1;have OP:=Ac (TE0 b gd ((D.seen 0).length / 1024) D w h);have LO:=Ac (MA0 hfit.ok);obtain ⟨n0,hn0⟩:∃ n,(D.seen 0).length=n:=⟨_,rfl⟩;obtain ⟨l,hl⟩:∃ l,D.seen 1=l:=⟨_,rfl⟩;obtain ⟨s,hs⟩:∃ s,bsOf l=s:=⟨_,rfl⟩
 have hz:s.size=l.length:=by rw [← hs,Bv]
 have ht:s.data.toList=l:=by rw [← hs,Ew]
 rw [hl] at T1 T2 l1;rw [hs] at T2;rw [hn0] at T0 l0 OP;rw [← hz] at T1 T2 l1
 have LA:=Ac (fun (p0:Nat) w1 (h1:Has w1 (w.heap.size+1) 181 (Lj gd (.int .i64 0) (.int .i64 0) (.map none) (.map (some w.heap.size)) ⟨0,0,0,p0⟩))=>BG1 (w.heap.size+1) gd p0 _ _ _ _ s w1 h1 l1)
 rw [ht] at LA;have HS:=Ac hs;have HL:=Ac hl;have N0:=Ac hn0;have L0:=Ac l0;have L1:=Ac l1;have HZ:=Ac hz;have HF:=Ac hfit;have HC:=Ac hc
 have wr0:wrap64 ((n0:Int) / 1024)=((n0 / 1024:Nat):Int):=(IntWalk.wrap64_in _ (by omega)).trans (by omega)
 have hmm:=SY0;obtain ⟨p0,hp0⟩:∃ p,n0 / 1024=p:=⟨_,rfl⟩
 have hp1:p0≤65536:=by omega
 rw [hp0] at OP wr0;have P0:=Ac hp0;have P1:=Ac hp1;clear s0 s1 s2 h hfit hd hc hn0 hl hs hz ht l0 l1 hp0 hp1
 go_enter Tryz.func38,Tryz.ntmps38
 go_upto_region 11 with (first | (go_at_call 94;(with_reducible refine T0.out.mono ?_);rintro e w1 ⟨rfl,rfl⟩) | (go_at_call 94;(with_reducible refine T1.out.mono ?_);rintro e w1 ⟨rfl,rfl⟩) | (go_at_call 95;(with_reducible refine T2.out.mono ?_);rintro e w1 ⟨rfl,rfl⟩))
 obtain ⟨g,hg⟩:∃ g,w.heap.size+1=g:=⟨_,rfl⟩;obtain ⟨m2,hm2⟩:∃ g,w.heap.size=g:=⟨_,rfl⟩;obtain ⟨W,hW⟩:∃ W,((w.alloc (.map #[] 0)).alloc (.cells #[.pointer (some ⟨gd,0,none⟩),.int .i64 0,.int .i64 0,.map none,.int .i64 0,.int .i64 p0,.map (some w.heap.size),.int .i64 0,.int .i64 0] 181))=W:=⟨_,rfl⟩;have OQ:=Ac OP.out;clear OP;rw [hW,hg] at OQ;rw [hg] at LA;rw [hW,hg];have HWS:=Ac hm2;have HGS:=Ac hg
 clear hW hg;rw [hm2] at OQ LA ⊢;clear hm2;have LW:=Ac (LA.out p0 W OQ.out.1.has);clear LA hmm wr0
 by_cases hx:Bj l=2
 ·have E0:=NF0 (p0:=p0) hx
  have HX0:=Ac hx;rw [E0] at LW;obtain ⟨D',hD'⟩:∃ D',QQ0 D p0 4=D':=⟨_,rfl⟩;obtain ⟨kf,hkf⟩:∃ k:Nat,k=0:=⟨_,rfl⟩;obtain ⟨kp,hkp⟩:∃ k:Nat,k=p0:=⟨_,rfl⟩;obtain ⟨sl,hsl⟩:∃ k:Nat,k=0:=⟨_,rfl⟩;obtain ⟨nu,hnu⟩:∃ k:Nat,k=1:=⟨_,rfl⟩;obtain ⟨fs,hfs⟩:∃ f:List Fr,f=[]:=⟨_,rfl⟩
  have ER:=Ac (show (Lg.opened D).rw=⟨D',kf,kp,fun x=>Bc (fs.take kf) x,kf,kp,fun x=>Bc (fs.take kf) x,sl,nu⟩ by
   have e1:Lg.opened D=⟨Pz D,[],0,(D.seen 0).length / 1024,0,1⟩:=if_pos (by rw [HL.out];exact hx)
   have e2:Pz D=D':=by rw [← hD',← P0.out,← N0.out];rfl
   rw [e1,e2,N0.out,P0.out,hkf,hkp,hsl,hnu,hfs];rfl)
  have HKF:=Ac (show kf≤100000 by omega)
  have BG:=Ac (fun w1 (h1:DP w1 b gd D) (h2:Has w1 g 181 (Lj gd (.int .i64 0) (.int .i64 0) (.map none) (.map (some m2)) ⟨0,0,0,p0⟩))=>XE0 b gd g p0 D _ _ _ _ _ _ _ w1 h1 h2 OQ.out.1.offg HF.out (HC.out (by rw [HL.out];exact HX0.out)) (by have:=P1.out;omega))
  rw [hD'] at BG;have K0:=Ac hkf;have K1:=Ac hkp;have K2:=Ac hsl;have K3:=Ac hnu;clear E0 hx hD' hkf hkp hsl hnu hfs
  go_wp2_with (first | (go_at_call 112;(with_reducible refine LW.out.mono ?_);rintro e w1 ⟨rfl,hh,ht⟩;have HH1:=Ac hh;have HT1:=Ac ht;clear hh ht) | (go_at_call 113;(refine (BG.out _ (OQ.out.1.disk.turn HT1.out (fun k hk h3=>OQ.out.1.offg ((show k=g by simpa using hk) ▸ h3))) HH1.out).mono ?_);rintro e w2 ⟨rfl,b2,hd2,hh2,ht2,ho2⟩;have TT:=Ac ((HT1.out.right b).trans ht2);have HALF:=Ac (show Half w2 b2 gd g m2 D' kf kp sl nu 0 (fun x=>Bc (fs.take 0) x) from by rw [K0.out,K1.out,K2.out,K3.out];exact ⟨hd2,hh2,OQ.out.1.map2.turn TT.out (fun h3=>(List.mem_append.1 h3).elim OQ.out.1.offm (fun h4=>OQ.out.1.ne (show m2=g by simpa using h4).symm)),ho2,fun h3=>(TT.out.new m2 (List.mem_append_left _ h3)).elim (fun h5=>(List.mem_append.1 h5).elim OQ.out.1.offm (fun h4=>OQ.out.1.ne (show m2=g by simpa using h4).symm)) (fun h5=>by have:=OQ.out.1.map2.lt;omega)⟩);have y4:w2.cell? ⟨g,4,none⟩=some (.int .i64 0):=hh2.cell 4;have gz:=hh2.lt;clear hd2 hh2 ht2 ho2))
  have HT:=Ac (JV0 (m2:=m2) HWS.out OQ.out.2 TT.out (by have:=HGS.out;omega) (by have:=HWS.out;omega))
  go_loopw [56] (fun v56 wr=>∃ k:Nat,k≤kf∧v56 = .int .i64 k∧Half wr b2 gd g m2 D' kf kp sl nu k (fun x=>Bc (fs.take k) x)∧Turn b (b2++[some g,some m2]) w wr) (fun v56 _=>kf-(intOf v56).toNat)
  case atStart=>exact ⟨0,Nat.zero_le _,rfl,HALF.out,HT.out⟩
  case round =>
   obtain ⟨k,hk,rfl,hh,ht⟩:=hrel;have HH:=Ac hh;have HTT:=Ac ht;clear hh ht HALF HT
   by_cases hk2:k<kf
   ·exact absurd hk2 (by have:=K0.out;omega)
   ·have hk3:k=kf:=by omega
    subst hk3;have HD:=Ac HH.out;have y6:wr.cell? ⟨g,6,none⟩=some (.map (some m2)):=HH.out.has.cell 6;have y5:wr.cell? ⟨g,5,none⟩=some (.int .i64 kp):=HH.out.has.cell 5;have y4:wr.cell? ⟨g,4,none⟩=some (.int .i64 k):=HH.out.has.cell 4;have gz:=HH.out.has.lt
    have CP:=Ac (fun w1 (h1:MP w1 m2 k (fun x=>Bc (fs.take k) x))=>Zb m2 k kp k _ w1 (by have:=HKF.out;omega) h1)
    go_wp2_with ((go_at_call 115;refine (CP.out _ HD.out.map2).mono ?_);rintro e w3 ⟨m,rfl,hm,hlow,hb⟩;have HM:=Ac hm;have HW:=Ac hlow;have HB:=Ac hb;have hh3:=(HD.out.below hb).has;have c1:w3.cell? ⟨g,1,none⟩=some (.int .i64 0):=hh3.cell 1;have c2:w3.cell? ⟨g,2,none⟩=some (.int .i64 0):=hh3.cell 2;have c3:w3.cell? ⟨g,3,none⟩=some (.map none):=hh3.cell 3;have y1:=hh3.lt;have yf:=hh3.frozen;clear hm hlow hb hh3)
    go_ret2
    obtain ⟨h4,t4⟩:=(HD.out.below HB.out).log (Turn.below _ HB.out) HM.out (fun h3=>by have:=HD.out.lt h3;have:=HW.out;omega) HW.out
    refine ⟨g,b2,m,m2,rfl, ?_,HTT.out.trans t4⟩
    rw [ER.out];exact h4
 ·have E0:=OJ0 (p0:=p0) hx
  rw [E0] at LW;obtain ⟨G1,G2,_⟩:=Wq hx;obtain ⟨G3,G4,G5⟩:=Wy G2;obtain ⟨D',hD'⟩:∃ D',D=D':=⟨_,rfl⟩
  have e1:Lg.opened D=⟨D,Eb l (Ap l (Bj l)).2.1,(Ap l (Bj l)).2.1,(Ap l (Bj l)).2.2,Bj l,(Ap l (Bj l)).1⟩:=by
   rw [← HL.out];exact if_neg (by rw [HL.out];exact hx)
  obtain ⟨kf,hkf⟩:∃ k:Nat,(Ap l (Bj l)).2.1=k:=⟨_,rfl⟩;obtain ⟨kp,hkp⟩:∃ k:Nat,(Ap l (Bj l)).2.2=k:=⟨_,rfl⟩;obtain ⟨nu,hnu⟩:∃ k:Nat,(Ap l (Bj l)).1=k:=⟨_,rfl⟩;rw [hkf,hkp,hnu] at LW e1;rw [hnu] at G2 G3;rw [hkf] at G4;obtain ⟨sl,hsl⟩:∃ k:Nat,Bj l=k:=⟨_,rfl⟩;rw [hsl] at LW e1;obtain ⟨fs,hfs⟩:∃ f:List Fr,Eb l kf=f:=⟨_,rfl⟩
  have LFS:=Ac (show fs.length=kf by rw [← hfs];exact Gm l kf)
  have HKL:=Ac (show ∀ k<kf,64+1028*k+1028≤s.size from fun k hk=>by have:=HZ.out;omega)
  have HFS:=Ac (show ∀ k<kf,fs[k]? = some (Lu l k) from fun k hk=>by
   have h1:k<fs.length:=by have:=LFS.out;omega
   have h2:=List.getElem?_eq_getElem h1;rw [h2]
   have h3:=Ja l kf k fs[k] (by rw [hfs];exact h2)
   rw [h3.2])
  have ER:=Ac (show (Lg.opened D).rw=⟨D',kf,kp,fun x=>Bc (fs.take kf) x,kf,kp,fun x=>Bc (fs.take kf) x,sl,nu⟩ by
   rw [e1,hD',hfs]
   have h1:fs.take kf=fs:=List.take_of_length_le (by have:=LFS.out;omega)
   exact EN1 rfl LFS.out rfl (fun x=>by show Bc fs x=Bc (fs.take kf) x;rw [h1]) rfl rfl (fun x=>rfl) rfl rfl)
  have HKF:=Ac (show kf≤100000 by have:=HZ.out;have:=L1.out;omega)
  have LW2:Calls Tryz.prog 112 #[.pointer (some ⟨g,0,none⟩),.string s] W (fun e w'=>e = .returned (.bool true)∧Has w' g 181 (Lj gd (.int .i64 0) (.int .i64 0) (.map none) (.map (some m2)) ⟨sl,nu,kf,kp⟩)∧Turn [some g] [some g] W w'):=LW.out.mono fun e w' h=>⟨by rw [h.1];show _=Ending.returned (.bool true);rw [decide_eq_true (show 0<nu by omega)],h.2⟩
  have HLW:=Ac LW2
  have OD:=Ac (show DP W b gd D' from hD' ▸ OQ.out.1.disk)
  clear LW LW2 E0 hx G1 G2 G3 G4 G5 hD' e1 hkf hkp hnu hsl hfs;obtain ⟨b2,hb2⟩:∃ b2,b=b2:=⟨_,rfl⟩
  have OF:=Ac (show some g∉b2∧some m2∉b2 from hb2 ▸ ⟨OQ.out.1.offg,OQ.out.1.offm⟩)
  rw [hb2] at OD;have BB:=Ac hb2
  go_wp2_with (go_at_call 112;(with_reducible refine HLW.out.mono ?_);rintro e w1 ⟨rfl,hh,ht⟩;have TT:=Ac (ht.right b);have HALF:=Ac (show Half w1 b2 gd g m2 D' kf kp sl nu 0 (fun x=>Bc (fs.take 0) x) from ⟨OD.out.turn ht (fun k hk h3=>OF.out.1 ((show k=g by simpa using hk) ▸ h3)),hh,OQ.out.1.map2.turn ht (fun h4=>OQ.out.1.ne (show m2=g by simpa using h4).symm),OF.out.1,OF.out.2⟩);have y4:w1.cell? ⟨g,4,none⟩=some (.int .i64 kf):=hh.cell 4;have gz:=hh.lt;clear hh ht)
  have HT:=Ac (show Turn b (b2++[some g,some m2]) w w1 from hb2 ▸ JV0 (m2:=m2) HWS.out OQ.out.2 TT.out (by have:=HGS.out;omega) (by have:=HWS.out;omega))
  clear hb2
  go_loopw [56] (fun v56 wr=>∃ k:Nat,k≤kf∧v56 = .int .i64 k∧Half wr b2 gd g m2 D' kf kp sl nu k (fun x=>Bc (fs.take k) x)∧Turn b (b2++[some g,some m2]) w wr) (fun v56 _=>kf-(intOf v56).toNat)
  case atStart=>exact ⟨0,Nat.zero_le _,rfl,HALF.out,HT.out⟩
  case round =>
   obtain ⟨k,hk,rfl,hh,ht⟩:=hrel;have HH:=Ac hh;have HTT:=Ac ht;clear hh ht HALF HT
   by_cases hk2:k<kf
   ·have w_k:(k:Int)<(kf:Int):=by omega
    have hkl:=HKL.out k hk2;have hf:=HFS.out k hk2
    have NU:=Ac (Vd (s.extract (64+1028*k) s.size) (by rw [ByteArray.size_extract];omega))
    rw [← OM0 HS.out k] at NU;obtain ⟨x,hx⟩:∃ x,(Lu l k).n=x:=⟨_,rfl⟩
    have hxb:x<4294967296:=by rw [← hx];exact EC0 4 _ (by rw [Fh];have:=HZ.out;omega)
    rw [hx] at NU;have HX:=Ac hx
    have WX:=Ac (wfI (x:=(x:Int)) (by omega) (by omega))
    have HD:=Ac (HH.out.below (Below.refl _ _).drew);have y6:wr.cell? ⟨g,6,none⟩=some (.map (some m2)):=HH.out.has.cell 6;have gz:=HH.out.has.lt
    have kb:k≤100000:=by have:=HKF.out;omega
    have q1:(64:Int)+(k:Int)*1028≤(s.size:Int):=by omega
    have q2:IntKind.i64.wrap (64+IntKind.i64.wrap ((k:Int)*1028))=((64+1028*k:Nat):Int):=by
     rw [IntWalk.i64_in ((k:Int)*1028) (by omega),IntWalk.i64_in (64+(k:Int)*1028) (by omega)];omega
    have TD:=Ac (HTT.out.trans (Turn.below _ (Below.refl wr.heap.size wr).drew))
    have LT:=Ac (PA0 (fs:=fs) (k:=k) (by have:=LFS.out;omega) hf (x:Int) (by rw [← hx]))
    clear hx hf hkl
    go_upto_region 18 with fail
    go_region_with ((go_at_call 114;(refine (NU.out _).mono ?_);rintro e w1 ⟨rfl,hb1⟩;have HH1:=Ac (HD.out.below hb1);have yy6:w1.cell? ⟨g,6,none⟩=some (.map (some m2)):=HH1.out.has.cell 6;have yyz:=HH1.out.has.lt;obtain ⟨w3,hrun,hm3,hg3⟩:=HH1.out.map2.put (by omega) (x:Int) (k+1) WX.out (by omega);rw [show ((k+1:Nat):Int)=(k:Int)+1 from rfl] at hrun;have HH3:=Ac (HH1.out.put hm3 hg3);have HT3:=Ac ((TD.out.trans (Turn.below _ hb1)).trans ((Turn.grown hg3).wide (c:=b2++[some g,some m2]) (c':=b2++[some g,some m2]) (fun j hj=>List.mem_append_right _ (by rw [show j=m2 by simpa using hj];simp)) (fun j hj=>.inr hj)));clear hm3 hg3 hb1))
    all_goals
     go_wp2_with fail
     go_roundw
     case rel=>exact ⟨k+1,by omega,by simp,by have q:=HH3.out;rw [LT.out] at q;exact q,HT3.out⟩
     case measure=>simp [intOf];omega
   ·have hk3:k=kf:=by omega
    subst hk3;have HD:=Ac HH.out;have y6:wr.cell? ⟨g,6,none⟩=some (.map (some m2)):=HH.out.has.cell 6;have y5:wr.cell? ⟨g,5,none⟩=some (.int .i64 kp):=HH.out.has.cell 5;have y4:wr.cell? ⟨g,4,none⟩=some (.int .i64 k):=HH.out.has.cell 4;have gz:=HH.out.has.lt
    have CP:=Ac (fun w1 (h1:MP w1 m2 k (fun x=>Bc (fs.take k) x))=>Zb m2 k kp k _ w1 (by have:=HKF.out;omega) h1)
    go_wp2_with ((go_at_call 115;refine (CP.out _ HD.out.map2).mono ?_);rintro e w3 ⟨m,rfl,hm,hlow,hb⟩;have HM:=Ac hm;have HW:=Ac hlow;have HB:=Ac hb;have hh3:=(HD.out.below hb).has;have c1:w3.cell? ⟨g,1,none⟩=some (.int .i64 0):=hh3.cell 1;have c2:w3.cell? ⟨g,2,none⟩=some (.int .i64 0):=hh3.cell 2;have c3:w3.cell? ⟨g,3,none⟩=some (.map none):=hh3.cell 3;have y1:=hh3.lt;have yf:=hh3.frozen;clear hm hlow hb hh3)
    go_ret2
    obtain ⟨h4,t4⟩:=(HD.out.below HB.out).log (Turn.below _ HB.out) HM.out (fun h3=>by have:=HD.out.lt h3;have:=HW.out;omega) HW.out
    refine ⟨g,b2,m,m2,rfl, ?_,HTT.out.trans t4⟩
    rw [ER.out];exact h4
end Go.Proofs.YtjihboddejaelaaGreat
namespace Go.Proofs.YtjihboddejaelaaGreat
open Go.RowKit Go.BigFrame
def Vg:ByteArray:=Dc 4 0 []
def Pl.begun (D:Dk):Lg:=if (Lg.opened D).pages=0 then (Lg.opened D).Eu 0 Vg 1 else Lg.opened D
def Pl.opened (D:Dk) (most:Nat):Pl×Int:=Pl.Oj (Pl.begun D) most
def TY0 (w:World) (b:List (Option Nat)) (gd:Nat) (P:Pl) (E:Int) (en:Ending) (w':World):Prop :=
 ∃ b' g m1 m2 p e h t,en = .returned (.tuple #[Cc p,.int .i64 E])∧PM w' b' gd g m1 m2 p e h t [] P∧Turn b (allB b' g m1 m2 p e h t []) w w'
theorem UP0 {b:List (Option Nat)} {gd g m1 m2:Nat} {L:Lg} {w:World} (h:LR w b gd g m1 m2 L.rw) (ok:L.ok) (fit:Fit L.D 4) (n:Int) (s:ByteArray) (p:Int) :
 Calls Tryz.prog 40 #[Cc g,.int .i64 n,.string s,.int .i64 p] w (JB0 w b gd g m1 m2 (L.Eu n s p).rw (.int .i64 (L.Gp n s p))):=by
 obtain ⟨e1,e2⟩:=XS0 ok n s p;rw [e1,e2]
 exact RT0 b gd g m1 m2 L.rw n s p w h fit ok.slot ok.number (show L.fs.length≤_ by have:=ok.len;omega)
theorem XX0 (b:List (Option Nat)) (gd:Nat) (D:Dk) (most:Nat) (h8:8≤most) (h64:most≤64) (w:World) (H:DP w b gd D) (fit:Fit D 8) (hd:D.down=false) (hc:Bj (D.seen 1)=2→D.calm) (ok:(Lg.opened D).ok) (fit2:Fit (Lg.opened D).D 4)
 (hC:(Lg.opened D).pages=0→(Lg.opened D).Gp 0 Vg 1=0) :
 Calls Tryz.prog 7 #[.pointer (some ⟨gd,0,none⟩),.int .i64 most] w (TY0 w b gd (Pl.opened D most).1 (Pl.opened D most).2):=by
 have WO:=Ac (VU0 b gd D w H (fit.less (by omega)) hd hc)
 have BG:Hid (Pl.begun D=if (Lg.opened D).pages=0 then (Lg.opened D).Eu 0 Vg 1 else Lg.opened D):=rfl
 have PO:Hid (Pl.opened D most=Pl.Oj (Pl.begun D) most):=rfl;have OK:=Ac ok;have FIT:=Ac fit2;have HC:=Ac hC;obtain ⟨L,hL⟩:∃ L,Lg.opened D=L:=⟨_,rfl⟩;rw [hL] at WO BG OK FIT HC;clear H fit hd hc ok fit2 hC hL
 have i8:¬ (most:Int)<8:=by omega
 have i64:¬ (64:Int)<most:=by omega
 by_cases hp0:L.pages=0
 ·have BG2:=Ac (BG.out.trans (if_pos hp0))
  have CE:=HC.out hp0
  have CM:=Ac (fun b1 g n1 n2 w1 (hq:LR w1 b1 gd g n1 n2 L.rw)=>UP0 hq OK.out FIT.out 0 Vg 1)
  rw [CE] at CM;have COK:=Ac (YK0 OK.out 0 Vg 1)
  have MT:Hid (∀ w,Calls Tryz.prog 41 #[.int .i64 0,.slice none 0 0] w fun e w'=>e = .returned (.string Vg)∧Below w.heap.size w w'):=fun w=>LF0 0 none 0 0 [] w (SS.nil w) (by decide)
  have PG:Hid (∀ b1 g n1 n2 w1,LR w1 b1 gd g n1 n2 L.rw→Calls Tryz.prog 39 #[Cc g] w1 fun e w'=>e = .returned (.int .i64 0)∧w1=w'):=fun b1 g n1 n2 w1 hq=>by
   have:=CS0 b1 gd g n1 n2 L.rw w1 hq
   rw [show (L.rw.kp:Nat)=0 from hp0] at this
   exact this
  obtain ⟨M,hM⟩:∃ M,L.Eu 0 Vg 1=M:=⟨_,rfl⟩;obtain ⟨S,hS⟩:∃ S,Vg=S:=⟨_,rfl⟩;rw [hM] at BG2 CM COK;rw [hS] at CM MT
  have FG:Hid (∀ b1 g n1 n2 w1,LR w1 b1 gd g n1 n2 M.rw→Calls Tryz.prog 42 #[Cc w1.heap.size] (w1.alloc (.cells #[Cc g,.int .i64 most,.pointer none,.map none,.int .i64 0,.int .i64 0,.map none,.int .i64 0,.int .i64 0,.int .i64 0] 106))
   (fun en w'=>en = .returned (.int .i64 (Pl.Oj M most).2)∧∃ e h t,PM w' b1 gd g n1 n2 w1.heap.size e h t [] (Pl.Oj M most).1∧Turn (b1++lb g n1 n2) (allB b1 g n1 n2 w1.heap.size e h t []) w1 w')):=fun b1 g n1 n2 w1 hq=>by
   have hb:Below w1.heap.size w1 (w1.alloc (.cells #[Cc g,.int .i64 most,.pointer none,.map none,.int .i64 0,.int .i64 0,.map none,.int .i64 0,.int .i64 0,.int .i64 0] 106)):=(Below.refl _ _).alloc (Nat.le_refl _) _
   refine (DF0 b1 gd g n1 n2 w1.heap.size M most _ (hq.below hb) COK.out (Has.new w1 106 #[Cc g,.int .i64 most,.pointer none,.map none,.int .i64 0,.int .i64 0,.map none,.int .i64 0,.int .i64 0,.int .i64 0]) (fun hk=>by have:=hq.lt hk;omega)).mono ?_
   rintro en w' ⟨he,e,h,t,h1,h2⟩;exact ⟨he,e,h,t,h1,(BG0 hb (a:=w1.heap.size) (Nat.le_refl _)).trans h2⟩
  rw [PO.out,BG2.out];obtain ⟨Q,hQ⟩:∃ Q,Pl.Oj M most=Q:=⟨_,rfl⟩;rw [hQ] at FG ⊢;clear CE hM hS hQ BG PO hp0 HC BG2 FIT OK
  go_enter Tryz.func7,Tryz.ntmps7
  go_wp2_with (first
   | (go_at_call 38;refine WO.out.mono ?_;rintro en w1 ⟨g,b1,n1,n2,rfl,hlr,ht⟩;have HL:=Ac hlr;have HT:=Ac ht;clear hlr ht)
   | (go_at_call 39;refine (PG.out _ _ _ _ _ HL.out).mono ?_;rintro en w2 ⟨rfl,rfl⟩)
   | (go_at_call 41;refine (MT.out _).mono ?_;rintro en w3 ⟨rfl,hb3⟩;have HL3:=Ac (HL.out.below hb3);have HT3:=Ac (HT.out.trans (Turn.below _ hb3));clear hb3)
   | (go_at_call 40;refine (CM.out _ _ _ _ _ HL3.out).mono ?_;rintro en w4 ⟨rfl,b4,n3,n4,hl4,ht4⟩;have HL4:=Ac hl4;have HT4:=Ac (HT3.out.trans ht4);clear hl4 ht4)
   | (go_at_call 42;refine (FG.out _ _ _ _ _ HL4.out).mono ?_;rintro en w5 ⟨rfl,e,h,t,hpm,ht5⟩))
  go_ret2
  exact ⟨b4,g,n3,n4,_,e,h,t,rfl,hpm,HT4.out.trans ht5⟩
 ·have BG2:=Ac (BG.out.trans (if_neg hp0))
  have e0:((L.pages:Int) == 0)=false:=by rw [beq_eq_false_iff_ne];omega
  have PG:Hid (∀ b1 g n1 n2 w1,LR w1 b1 gd g n1 n2 L.rw→Calls Tryz.prog 39 #[Cc g] w1 fun e w'=>e = .returned (.int .i64 L.pages)∧w1=w'):=fun b1 g n1 n2 w1 hq=>CS0 b1 gd g n1 n2 L.rw w1 hq
  have FG:Hid (∀ b1 g n1 n2 w1,LR w1 b1 gd g n1 n2 L.rw→Calls Tryz.prog 42 #[Cc w1.heap.size] (w1.alloc (.cells #[Cc g,.int .i64 most,.pointer none,.map none,.int .i64 0,.int .i64 0,.map none,.int .i64 0,.int .i64 0,.int .i64 0] 106))
   (fun en w'=>en = .returned (.int .i64 (Pl.Oj L most).2)∧∃ e h t,PM w' b1 gd g n1 n2 w1.heap.size e h t [] (Pl.Oj L most).1∧Turn (b1++lb g n1 n2) (allB b1 g n1 n2 w1.heap.size e h t []) w1 w')):=fun b1 g n1 n2 w1 hq=>by
   have hb:Below w1.heap.size w1 (w1.alloc (.cells #[Cc g,.int .i64 most,.pointer none,.map none,.int .i64 0,.int .i64 0,.map none,.int .i64 0,.int .i64 0,.int .i64 0] 106)):=(Below.refl _ _).alloc (Nat.le_refl _) _
   refine (DF0 b1 gd g n1 n2 w1.heap.size L most _ (hq.below hb) OK.out (Has.new w1 106 #[Cc g,.int .i64 most,.pointer none,.map none,.int .i64 0,.int .i64 0,.map none,.int .i64 0,.int .i64 0,.int .i64 0]) (fun hk=>by have:=hq.lt hk;omega)).mono ?_
   rintro en w' ⟨he,e,h,t,h1,h2⟩;exact ⟨he,e,h,t,h1,(BG0 hb (a:=w1.heap.size) (Nat.le_refl _)).trans h2⟩
  rw [PO.out,BG2.out];obtain ⟨Q,hQ⟩:∃ Q,Pl.Oj L most=Q:=⟨_,rfl⟩;rw [hQ] at FG ⊢;clear hQ BG PO hp0 HC BG2 FIT
  go_enter Tryz.func7,Tryz.ntmps7
  go_wp2_with (first
   | (go_at_call 38;refine WO.out.mono ?_;rintro en w1 ⟨g,b1,n1,n2,rfl,hlr,ht⟩;have HL:=Ac hlr;have HT:=Ac ht;clear hlr ht)
   | (go_at_call 39;refine (PG.out _ _ _ _ _ HL.out).mono ?_;rintro en w2 ⟨rfl,rfl⟩)
   | (go_at_call 42;refine (FG.out _ _ _ _ _ HL.out).mono ?_;rintro en w5 ⟨rfl,e,h,t,hpm,ht5⟩))
  go_ret2
  exact ⟨b1,g,n1,n2,_,e,h,t,rfl,hpm,HT.out.trans ht5⟩
open Go.Maps
section
variable {w w':World} {b b':List (Option Nat)} {gd g m1 m2 m1' m2' p e h t:Nat} {A A1 A2:List Nat} {a:Nat} {P:Pl}
end

section
variable {w w':World} {b b':List (Option Nat)} {gd g m1 m2 m1' m2' p e h t:Nat} {A A1 A2:List Nat} {a:Nat} {P:Pl}
end
end Go.Proofs.YtjihboddejaelaaGreat
namespace Go.Proofs.YtjihboddejaelaaGreat
open Go.RowKit
def wt (P:Pl):Nat:=P.L.fs.length+(P.ring.filter (·.dirty)).length
def Bk.put (N:Bk) (x:Nat) (s:ByteArray):Bk:=⟨N.q,fun m=>if m=x then s else N.K m⟩
theorem JS0 {F:List Pf} {g:Pf} {x:Nat} (hg:g∈F) (hx:g.n≠x):g∈Oi x F:=List.mem_filter.2 ⟨hg,by simpa using hx⟩
theorem SK0 {F:List Pf} {f g:Pf} (h:(F.map (·.n)).Nodup) (hg:g∈F) (hf:f∈F) (e:g.n=f.n):g=f:=by
 obtain ⟨F1,F2,rfl⟩:=List.append_of_mem hf;obtain ⟨n1,n2,_⟩:=Iu h
 rcases List.mem_append.1 hg with h1 | h1
 ·exact absurd (by omega) (n1 g h1)
 ·rcases List.mem_cons.1 h1 with h1 | h1
  ·exact h1
  ·exact absurd (by omega) (n2 g h1)
theorem MK0 {F:List Pf} {f:Pf} (h:(F.map (·.n)).Nodup) (hf:f∈F):(Oi f.n F++[f]).Perm F:=by
 obtain ⟨F1,F2,rfl⟩:=List.append_of_mem hf;rw [Sv h];exact (List.perm_append_singleton f (F1++F2)).trans List.perm_middle.symm
theorem FC0 {F G:List Pf} (h:F.Perm G):(F.filter (·.dirty)).length=(G.filter (·.dirty)).length:=(h.filter _).length_eq
theorem SE0 {F:List Pf} {f:Pf} (h:(F.map (·.n)).Nodup) (hf:f∈F):(F.filter (·.dirty)).length=((Oi f.n F).filter (·.dirty)).length+(if f.dirty then 1 else 0):=by
 rw [← FC0 (MK0 h hf),List.filter_append,List.length_append]
 cases hd:f.dirty <;> simp [List.filter_cons,hd]
section
variable {P:Pl} {B N:Bk}
theorem HV0 (x:Int):(P.get x).1.most=P.most∧(P.get x).1.pages=P.pages∧(P.get x).1.free=P.free∧(P.get x).1.turned=P.turned:=by
 obtain ⟨s1,s2,s3,s4,s5⟩:=Kv (P:=P);unfold Pl.get
 split
 ·split
  ·exact ⟨rfl,rfl,rfl,rfl⟩
  ·split
   ·unfold Pl.fetch
    split <;> exact ⟨s1,s2,s3,s4⟩
   ·exact ⟨s1,s2,s3,s4⟩
 ·exact ⟨rfl,rfl,rfl,rfl⟩
end
theorem ZJ0 {l:Nat} (hl:l≤65536):(Dc 4 l []).size=1024:=Og (K:=4) (by omega) (by omega) (by omega) (by decide)
section
variable {P:Pl} {B N:Bk} {T:Nat→Option ByteArray}
end
section
variable {B N:Bk} {P:Pl} {T:Nat→Option ByteArray}
end
variable {mf:Nat}
theorem OD0 {L:Lg} (h:Safe L) {n:Nat} (hn:n≤65536) {t:ByteArray} (hl:Vh L.D.l0 L.fs n t):(L.D.down=false→L.rw.Ej n=0∧L.rw.Gy n=t)∧(L.rw.Ej n≠0→L.D.down=true):=by
 have key:L.D.down=false→L.rw.Ej n=0∧L.rw.Gy n=t:=fun hd=>by
  obtain ⟨e1,e2⟩:=XZ0 h.ok hd n;rw [← e1,← e2]
  have hseen:L.D.seen 0=L.D.l0:=by
   have:=Ut L.D.waits 0 0 L.D.l0;rw [Ro [1] L.D.waits 0 0 L.D.l0 h.waits0] at this;exact this.symm
  have r0:0≤(n:Int)∧(n:Int)≤2147483647:=by omega
  have rE:L.Ej n=if Bc L.fs n≠0 then 0 else if (n:Int)<((L.D.seen 0).length / 1024:Nat) then 0 else 7:=(if_pos r0).trans (if_neg (by rw [hd];decide))
  have rS:L.Gy n=if Bc L.fs n≠0 then ((L.fs[Bc L.fs n-1]?).map (·.text)).getD ⟨#[]⟩ else if (n:Int)<((L.D.seen 0).length / 1024:Nat) then bsOf (Aw (L.D.seen 0) (1024*(n:Int).toNat) 1024) else ⟨#[]⟩:=if_pos ⟨r0.1,r0.2,hd⟩
  rw [rE,rS,hseen];unfold Vh at hl
  by_cases hf:Bc L.fs n≠0
  ·rw [if_pos hf] at hl
   rw [if_pos hf,if_pos hf,hl];exact ⟨rfl,rfl⟩
  ·rw [if_neg hf] at hl
   rw [if_neg hf,if_neg hf]
   have hlt:(n:Int)<(L.D.l0.length / 1024:Nat):=by have:=hl.2;omega
   rw [if_pos hlt,if_pos hlt,Int.toNat_natCast];exact ⟨rfl,hl.1⟩
 refine ⟨key,fun hE=>?_⟩
 cases hd:L.D.down
 ·exact absurd (key hd).1 hE
 ·rfl
structure PIn (mf:Nat) (P:Pl) (B N:Bk):Prop where
 ok:P.ok
 log:WD0 mf P.L B
 pages:P.pages=N.q
 ring:∀ f∈P.ring,f.s=N.K f.n∧(f.dirty=true→f.n∈P.turned)
 lies:∀ n,n<N.q→(∀ f∈P.ring,f.n=n→f.dirty=false)→Vh P.L.D.l0 P.L.fs n (N.K n)
 same:∀ n,n<N.q→n∉P.turned→n<B.q∧N.K n=B.K n
 le:B.q≤N.q
section
variable {P:Pl} {B N:Bk}
theorem PIn.up (h:PIn mf P B N):∀ f∈P.ring,f.n<N.q∧f.n≤65536:=fun f hf=>by
 have h1:=h.ok.pages f hf;have h2:=h.ok.few;have h3:=h.pages;omega
theorem BN1 (h:PIn mf P B N) (hw:wt P≤60000) {f:Pf} (hf:f∈P.ring):PIn mf (P.Ht f).1 B N∧wt (P.Ht f).1≤wt P∧((P.Ht f).2≠0→(P.Ht f).2=2∧(P.Ht f).1.L.D.down=true):=by
 have hok:=QC0 h.ok f;obtain ⟨r2,r3⟩:=h.ring f hf;obtain ⟨u1,u2⟩:=h.up f hf;have hdd:=SE0 h.ok.names hf
 have hlen:P.L.fs.length≤60000:=by unfold wt at hw;omega
 cases hd:f.dirty
 ·have e:P.Ht f=({ P with ring:=Oi f.n P.ring },0):=by unfold Pl.Ht;rw [hd];rfl
  rw [e] at hok ⊢;rw [hd] at hdd
  refine ⟨⟨hok,h.log,h.pages,fun g hg=>h.ring g ((Kz _ _).subset hg),fun n hn hc=>h.lies n hn fun g hg hgn=>?_,h.same,h.le⟩, ?_,fun h2=>absurd rfl h2⟩
  ·by_cases hx:g.n=f.n
   ·rw [SK0 h.ok.names hg hf hx];exact hd
   ·exact hc g (JS0 hg hx) hgn
  ·show P.L.fs.length+((Oi f.n P.ring).filter (·.dirty)).length≤P.L.fs.length+(P.ring.filter (·.dirty)).length
   rw [hdd];omega
 ·obtain ⟨a1,al,a2,a3,a4,a5⟩:=QV0 h.log hlen u2 (h.ok.size f hf)
  rw [hd] at hdd
  by_cases hE:P.L.Dq f.n f.s=0
  ·obtain ⟨b1,b2,b3⟩:=a4 hE
   have e:P.Ht f=({ P with L:=P.L.append f.n f.s,spills:=wrap64 (P.spills+1),ring:=Oi f.n P.ring },0):=by unfold Pl.Ht;rw [hd,if_pos rfl,if_pos hE]
   rw [e] at hok ⊢
   refine ⟨⟨hok,a1,h.pages,fun g hg=>h.ring g ((Kz _ _).subset hg),fun n hn hc=>?_,h.same,h.le⟩, ?_,fun h2=>absurd rfl h2⟩
   ·show Vh (P.L.append f.n f.s).D.l0 (P.L.append f.n f.s).fs n _
    rw [b1,al]
    by_cases hnf:n=f.n
    ·subst hnf;rw [← r2];exact FQ0
    ·exact OR0 (h.lies n hn fun g hg hgn=>hc g (JS0 hg (by omega)) hgn) hnf
   ·show (P.L.append f.n f.s).fs.length+((Oi f.n P.ring).filter (·.dirty)).length≤P.L.fs.length+(P.ring.filter (·.dirty)).length
    rw [b1,hdd,List.length_append,List.length_singleton,if_pos rfl];omega
  ·obtain ⟨b0,b1,b2⟩:=a5 hE
   have e:P.Ht f=({ P with L:=P.L.append f.n f.s },P.L.Dq f.n f.s):=by unfold Pl.Ht;rw [hd,if_pos rfl,if_neg hE]
   rw [e] at hok ⊢
   refine ⟨⟨hok,a1,h.pages,h.ring,fun n hn hc=>?_,h.same,h.le⟩, ?_,fun _=>⟨b0,b2⟩⟩
   ·show Vh (P.L.append f.n f.s).D.l0 (P.L.append f.n f.s).fs n _
    rw [b1,al];exact h.lies n hn hc
   ·show (P.L.append f.n f.s).fs.length+_≤_
    rw [b1];exact Nat.le_refl _
theorem NX0 (h:PIn mf P B N) (hw:wt P≤60000):PIn mf P.room.1 B N∧wt P.room.1≤wt P∧(P.room.2≠0→P.room.2=6∨(P.room.2=2∧P.room.1.L.D.down=true)):=by
 unfold Pl.room
 split
 ·exact ⟨h,Nat.le_refl _,fun h2=>absurd rfl h2⟩
 ·split
  ·exact ⟨h,Nat.le_refl _,fun _=>.inl rfl⟩
  ·rename_i f hi
   obtain ⟨a,b,c⟩:=BN1 h hw (List.mem_of_find?_eq_some hi)
   exact ⟨a,b,fun h2=>.inr (c h2)⟩
def Err (E:Int) (P:Pl):Prop:=E≠0→E≠2∨P.L.D.down=true
theorem US0 (h:PIn mf P B N) (hw:wt P≤60000) (x:Int):PIn mf (P.get x).1 B N∧wt (P.get x).1≤wt P∧Err (P.get x).2 (P.get x).1:=by
 have hok:=AF0 h.ok x;have hp:=h.pages;have hf:=h.ok.few;unfold Pl.get at hok ⊢
 by_cases hx:0≤x∧x<(P.pages:Int)
 ·rw [if_pos hx] at hok ⊢
  split
  ·rename_i f hfd
   rw [hfd] at hok;dsimp only at hok;have hm:f∈P.ring:=List.mem_of_find?_eq_some hfd;have hpm:=MK0 h.ok.names hm
   refine ⟨⟨hok,h.log,h.pages,fun g hg=>h.ring g (hpm.mem_iff.1 hg),fun n hn hc=>h.lies n hn (fun g hg=>hc g (hpm.mem_iff.2 hg)),h.same,h.le⟩, ?_,fun h2=>absurd rfl h2⟩
   show P.L.fs.length+((Oi f.n P.ring++[f]).filter (·.dirty)).length≤P.L.fs.length+(P.ring.filter (·.dirty)).length
   rw [FC0 hpm];exact Nat.le_refl _
  ·rename_i hfd
   rw [hfd] at hok;dsimp only at hok;obtain ⟨r1,r2,r3⟩:=NX0 h hw;obtain ⟨s1,s2,s3,s4,s5⟩:=Kv (P:=P)
   obtain ⟨y,rfl⟩:∃ y:Nat,x=y:=⟨x.toNat,by omega⟩
   by_cases hr:P.room.2=0
   ·rw [if_pos hr] at hok ⊢
    have hno:∀ f∈P.room.1.ring,f.n≠y:=fun f hf2=>by have:=Yi hfd f (s5 f hf2);omega
    generalize P.room.1=R at *
    have hl:=r1.lies y (by omega) (fun f hf2 hfx=>absurd hfx (hno f hf2))
    obtain ⟨q1,q2⟩:=OD0 r1.log.safe (by omega) hl
    unfold Pl.fetch at hok ⊢;rw [Int.toNat_natCast] at hok ⊢
    by_cases hE:R.L.rw.Ej y=0
    ·rw [if_pos hE] at hok ⊢
     obtain ⟨_,q3⟩:=q1 (VX0 hE)
     refine ⟨⟨hok,r1.log,r1.pages,fun f hf2=>?_,fun n hn hc=>r1.lies n hn (fun f hf2=>hc f (List.mem_append_left _ hf2)),r1.same,r1.le⟩, ?_,fun h2=>absurd rfl h2⟩
     ·rcases List.mem_append.1 hf2 with hf2 | hf2
      ·exact r1.ring f hf2
      ·rw [List.mem_singleton.1 hf2]
       exact ⟨q3,fun h2=>by cases h2⟩
     ·show R.L.fs.length+((R.ring++[_]).filter (fun f:Pf=>f.dirty)).length≤_
      rw [List.filter_append,List.length_append]
      refine Nat.le_trans ?_ r2
      unfold wt;simp [List.filter_cons]
    ·rw [if_neg hE] at hok ⊢
     exact ⟨r1,r2,fun _=>.inr (q2 hE)⟩
   ·rw [if_neg hr] at hok ⊢
    exact ⟨r1,r2,fun _=>(r3 hr).imp (fun h6=>by rw [h6];decide) (fun h2=>h2.2)⟩
 ·rw [if_neg hx]
  exact ⟨h,Nat.le_refl _,fun _=>.inl (by show (7:Int)≠2;decide)⟩
theorem WL0 (h:PIn mf P B N) (hw:wt P≤60000) {x:Int} (hE:(P.get x).2=0):0≤x∧x<(N.q:Int)∧(P.get x).1.Pv.s=N.K x.toNat:=by
 obtain ⟨g1,_,_⟩:=US0 h hw x;obtain ⟨F0,f,hF,hn,h0,h1⟩:=Uy h.ok hE;have hp:=h.pages
 refine ⟨h0,by omega, ?_⟩
 rw [(Va hF).1]
 have:=(g1.ring f (by rw [hF];simp)).1
 rw [this]
 congr 1
 omega
theorem QL0 (h:PIn mf P B N) (hw:wt P≤60000) (x:Int) {s:ByteArray} (hs:s.size=1024) :
 ((P.put x s).2=0→0≤x∧x<(N.q:Int)∧PIn mf (P.put x s).1 B (N.put x.toNat s))∧((P.put x s).2≠0→PIn mf (P.put x s).1 B N)∧wt (P.put x s).1≤wt P+1∧(P.put x s).1.free=P.free∧Err (P.put x s).2 (P.put x s).1:=by
 obtain ⟨g1,g2,g3⟩:=US0 h hw x;obtain ⟨s1,s2,s3,s4⟩:=HV0 (P:=P) x;have hok:=XF0 h.ok x hs
 by_cases hE:(P.get x).2=0
 ·obtain ⟨F0,f,hF,hn,i0,i1⟩:=Uy h.ok hE
  have e:=put_eq (s:=s) hE hF hn;have hp:=h.pages
  obtain ⟨y,rfl⟩:∃ y:Nat,x=y:=⟨x.toNat,by omega⟩
  have hfn:f.n=y:=by omega
  rw [e] at hok ⊢;rw [Int.toNat_natCast]
  generalize (P.get y).1=R at *
  have nm:=g1.ok.names;rw [hF] at nm;obtain ⟨n1,_,_⟩:=Iu (F2:=[]) nm
  refine ⟨fun _=>⟨i0,by omega,⟨hok,g1.log,g1.pages,fun g hg=>?_,fun n hn2 hc=>?_,fun n hn2 hnt=>?_,g1.le⟩⟩,fun h2=>absurd rfl h2, ?_,s3,fun h2=>absurd rfl h2⟩
  ·show g.s=(if g.n=y then s else N.K g.n)∧(g.dirty=true→g.n∈Vj f.n R.turned)
   have hin:∀ z,z∈R.turned→z∈Vj f.n R.turned:=fun z hz=>by
    unfold Vj;split
    ·exact hz
    ·exact List.mem_cons_of_mem _ hz
   rcases List.mem_append.1 hg with hg | hg
   ·have h1:=g1.ring g (by rw [hF];exact List.mem_append_left _ hg)
    rw [if_neg (by have:=n1 g hg;omega)]
    exact ⟨h1.1,fun h2=>hin _ (h1.2 h2)⟩
   ·rw [List.mem_singleton.1 hg]
    refine ⟨(if_pos hfn).symm,fun _=>?_⟩
    show f.n∈Vj f.n R.turned
    unfold Vj;split
    ·assumption
    ·exact List.mem_cons_self ..
  ·show Vh R.L.D.l0 R.L.fs n (if n=y then s else N.K n)
   have hnx:n≠y:=fun e2=>by
    have:(true:Bool)=false:=hc { f with s:=s,dirty:=true } (List.mem_append_right _ (List.mem_singleton.2 rfl)) (by show f.n=n;omega)
    cases this
   rw [if_neg hnx]
   refine g1.lies n hn2 fun g hg hgn=>?_
   rw [hF] at hg
   rcases List.mem_append.1 hg with hg | hg
   ·exact hc g (List.mem_append_left _ hg) hgn
   ·rw [List.mem_singleton.1 hg] at hgn;omega
  ·show n<B.q∧(if n=y then s else N.K n)=B.K n
   have hnt2:n∉Vj f.n R.turned:=hnt
   have hnx:n≠y:=fun e2=>hnt2 (by
    rw [e2,← hfn];unfold Vj;split
    ·assumption
    ·exact List.mem_cons_self ..)
   rw [if_neg hnx]
   refine g1.same n hn2 fun h2=>hnt2 ?_
   unfold Vj;split
   ·exact h2
   ·exact List.mem_cons_of_mem _ h2
  ·show R.L.fs.length+((F0++[_]).filter (fun f:Pf=>f.dirty)).length≤_
   refine Nat.le_trans ?_ (Nat.succ_le_succ g2)
   unfold wt;rw [hF,List.filter_append,List.filter_append,List.length_append,List.length_append];simp [List.filter_cons];omega
 ·have e:P.put x s=P.get x:=if_neg hE
  rw [e] at hok ⊢
  exact ⟨fun h2=>absurd h2 hE,fun _=>g1,Nat.le_succ_of_le g2,s3,g3⟩
end
end Go.Proofs.YtjihboddejaelaaGreat
