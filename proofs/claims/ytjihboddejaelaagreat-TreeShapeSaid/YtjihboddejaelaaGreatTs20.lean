/-
  A pool over a new disk: calm, with one page.
-/
import Derived.Test.YtjihboddejaelaaGreatTs1
import Derived.Test.YtjihboddejaelaaGreatTs19
import Derived.Test.YtjihboddejaelaaGreatTs8
import Derived.Deep.QuietTactic
import Derived.BigQuiet
import Derived.Deep.LoopGhost
import Derived.Test.YtjihboddejaelaaGreatTs18
import Derived.Test.YtjihboddejaelaaGreatTs4
import Derived.Test.YtjihboddejaelaaGreatTs13
set_option linter.unusedVariables false
set_option linter.unusedSimpArgs false
set_option maxRecDepth 100000
set_option maxHeartbeats 100000000
namespace Go.Proofs.YtjihboddejaelaaGreat
open Go.RowKit Go.BigFrame
theorem YQ0 {most:Nat} (h8:8≤most) (h64:most≤64):(Lg.opened Dk.new).ok∧((Lg.opened Dk.new).pages=0→(Lg.opened Dk.new).Gp 0 Vg 1=0)∧(Pl.begun Dk.new).D.down=false∧Fit (Pl.begun Dk.new).D 20000000 ∧
 (Pl.begun Dk.new).rw.Ej 0=0∧(Pl.begun Dk.new).rw.Gy 0=Dc 4 0 []∧(Pl.opened Dk.new most).2=0∧Cal (Pl.opened Dk.new most).1 Sl Sl 1 100∧(Pl.opened Dk.new most).1.free=0:=by
 have hi:=inv_start 0;have hc:=OH0 (D:=Dk.new) ⟨rfl,rfl⟩;have hst:=start_eq 0;have h0:Lg.opened Dk.new=Lg.opened (Ff [] [] (-1) 0):=rfl
 have hfit:Fit ((Lg.opened Dk.new).Eu 0 Vg 1).D 29000000:=RO0 (FS0 (PJ0.less (by omega))) _ _ _
 have hnear:=MN0 (Lg.opened Dk.new) 0 Vg 1
 have hw0:(Lg.opened Dk.new).D.waits.length≤10∧(Lg.opened Dk.new).D.count≤10:=by
  rw [h0,hst];obtain ⟨_,_,a,_⟩:=RH0 0
  refine ⟨by show (Pz (Ff [] [] (-1) 0)).waits.length≤10;rw [a];exact Nat.zero_le _, ?_⟩
  show (Pz (Ff [] [] (-1) 0)).count≤10
  unfold Pz;have q1:=(AP1 (Ff [] [] (-1) 0) 1 0).count;have q2:=(Xi ((Ff [] [] (-1) 0).Uu 1 0) 1).count;have q3:=(Yy (((Ff [] [] (-1) 0).Uu 1 0).sync 1) 1 0 (bsOf (Hu++slotL 1 0 (((Ff [] [] (-1) 0).seen 0).length / 1024)))).count;have q4:=(Xi ((((Ff [] [] (-1) 0).Uu 1 0).sync 1).write 1 0 (bsOf (Hu++slotL 1 0 (((Ff [] [] (-1) 0).seen 0).length / 1024)))) 1).count;have q0:(Ff [] [] (-1) 0).count=0:=rfl
  omega
 obtain ⟨L,hL⟩:∃ L,Lg.opened (Ff [] [] (-1) 0)=L:=⟨_,rfl⟩;unfold Pl.opened Pl.begun;rw [h0] at hc hfit hnear hw0 ⊢;rw [hL] at hi hc hst hfit hnear hw0 ⊢
 have f0:L.fs=[]:=by rw [hst]
 have k0:L.kept=0:=by rw [hst]
 have p0:L.pages=0:=by rw [hst]
 clear hst h0 hL
 have hq:WD0 60000 L ⟨0,fun _=>Vg⟩:=⟨hi.safe,⟨⟨p0,by rw [f0];simp⟩,fun n hn=>absurd hn (Nat.not_lt_zero _)⟩,by show 0≤65536;omega⟩
 have hF:Sm 60000 L.D.l0 Sl (L.fs++[⟨0,Vg⟩]) 1:=⟨⟨rfl,by rw [f0];simp⟩,fun n hn=>by
  have:n=0:=by have:n<1:=hn;omega
  subst this;exact FQ0⟩
 have hms:Vg.size=1024:=ZJ0 (l:=0) (by omega)
 obtain ⟨c1,c2⟩:=AM1 hq (by rw [f0];exact Nat.zero_le _) (n:=0) (p:=1) (by omega) ⟨by omega,by omega⟩ hms hF
 obtain ⟨z1,z2⟩:=JW0 hc (by rw [f0];exact Nat.zero_le _) (n:=0) (p:=1) (by omega) ⟨by omega,by omega⟩ hms hi.safe.ok.slot
 rw [show ((0:Nat):Int)=0 from rfl,show ((1:Nat):Int)=1 from rfl] at c1 z1 z2
 obtain ⟨a1,a0,a2,ak,a3⟩:=c1 z1;rw [if_pos p0]
 refine ⟨hi.safe.ok,fun _=>z1,a3,hfit.less (by omega), ?_⟩
 have hnw:=hnear.waits;have hnc:=hnear.count
 generalize L.Eu 0 Vg 1=M at *
 have hl:∀ n,n<Sl.q→Vh M.D.l0 M.fs n (Sl.K n):=by rw [a2,a0];exact hF.2
 have r:Root Sl 0:=⟨Nat.le_refl _,rfl,by omega⟩
 obtain ⟨e1,e2⟩:=(OD0 a1.safe (n:=0) (by omega) (hl 0 r.pos)).1 a3
 rw [r.text] at e2;have e1:M.rw.Ej 0=0:=e1;have e2:M.rw.Gy 0=Dc 4 0 []:=e2
 have hfl:M.fs.length=1:=by rw [a2,f0];rfl
 have eo:Pl.Oj M most=({ Pl.fresh M most with free:=0 },0):=by
  unfold Pl.Oj
  rw [if_pos e1,e2,show Hr (Dc 4 0 [])=some (4,0,[]) from ML0 r.le]
 have hpg:M.pages=1:=a1.kept.1.1
 refine ⟨e1,e2,by rw [eo], ?_⟩
 rw [eo]
 have pin:PIn 60000 ({ Pl.fresh M most with free:=0 }:Pl) Sl Sl:=⟨⟨a1.safe.ok,List.nodup_nil,fun f hf=>(by cases hf),fun f hf=>(by cases hf),h64,Nat.zero_le _,by show M.pages≤65536;omega,by show (0:Nat)≤_;omega,List.nodup_nil,fun x hx=>(by cases hx)⟩,a1,hpg,fun f hf=>(by cases hf),fun n hn _=>hl n hn,fun n hn _=>⟨hn,rfl⟩,Nat.le_refl _⟩
 exact ⟨⟨pin,r,by show M.fs.length+0≤1;omega,z2,h8,fun f hf=>(by cases hf),by show M.D.waits.length≤100;omega,by show M.D.count≤100;omega⟩,rfl⟩
def St.first:St:=⟨1,fun _=>(4,0,[]),[]⟩
theorem QF0:St.first.In Sl 0:=by
 have r:Root Sl 0:=⟨Nat.le_refl _,rfl,by omega⟩
 refine ⟨rfl,fun n hn=>?_,rfl,trivial,rfl,fun x hx=>(by cases hx),List.nodup_nil,by show 0<1;omega,by show 1≤65536;omega⟩
 obtain rfl:n=0:=by have:n<1:=hn;omega
 exact ⟨Jg (by omega) (by omega) (by omega),r.text⟩
def UX0 (b:List (Option Nat)) (w1:World) (en:Ending) (w':World):Prop:=∃ p X,en = .returned (.tuple #[.pointer (some ⟨p,0,none⟩),.int .i64 0])∧PT w' X p St.first St.first 1 100∧Turn b X w1 w'
theorem TK0 {gd:Nat} {b:List (Option Nat)} {w1:World} (h:DP w1 b gd Dk.new):Calls Tryz.prog 7 #[.pointer (some ⟨gd,0,none⟩),.int .i64 8] w1 (UX0 b w1):=by
 obtain ⟨o1,o2,o3,o4,o5,o6,o7,o8,o9⟩:=YQ0 (most:=8) (by omega) (by omega)
 have:=XX0 b gd Dk.new 8 (by omega) (by omega) w1 h (PJ0.less (by omega)) rfl (fun _=>⟨rfl,rfl⟩) o1 (FS0 (PJ0.less (by omega))) o2
 rw [o7] at this
 refine this.mono ?_
 intro en w' hp;obtain ⟨b1,g,m1,m2,p,e1,h1,t1,he,hl3,ht3⟩:=hp
 exact ⟨p,_,he,⟨b1,gd,g,m1,m2,e1,h1,t1,_,_,Sl,Sl,0,rfl,hl3,o8,by rw [o9];exact QF0,QF0⟩,ht3⟩
theorem JH0 {w:World} {X:List (Option Nat)} {p c k:Nat} {S S0:St} (h:PT w X p S S0 c k):Calls Tryz.prog 16 #[.pointer (some ⟨p,0,none⟩)] w fun e w'=>e = .returned (.int .i64 (S.q:Nat))∧w=w':=by
 obtain ⟨b,gd,g,m1,m2,e,h,t,A,P,B,N,f0,rfl,h2,h3,h4,h5⟩:=h;have:=SO0 b gd g m1 m2 p e h t A P w h2;rw [h3.pin.pages,h4.q] at this;exact this
def CC1 (X:List (Option Nat)) (w:World) (p:Nat) (S S0:St) (c k sb:Nat) (cs:Array Value) (pg:Pg) (en:Ending) (w':World):Prop :=
 ∃ A cp X',en = .returned (.agg #[.int .i64 pg.1,.int .i64 pg.2.1,.slice A pg.2.2.length cp])∧PT w' X' p S S0 c (k+1)∧Turn (some sb :: X) (some sb :: X') w w'∧Has w' sb 46 cs∧some sb∉X'∧w'.ownsRow w.heap.size 9 1 (.slice A pg.2.2.length cp) pg.2.2.length (strs pg.2.2)∧∀ g,(Value.slice A pg.2.2.length cp).ownBlock=some g→some g∉X'
theorem Ll {w:World} {X:List (Option Nat)} {p c k sb pages n:Nat} {S S0:St} {v1 v2 v3:Value} (h:PT w X p S S0 c k) (hsb:Has w sb 46 #[.int .i64 pages,v1,v2,v3,.bool true]) (hX:some sb∉X) (hc:c≤60000) (hk:k≤900000000) (hn:n<S.q) (hpg:pages+1≤S.q) :
 Calls Tryz.prog 57 #[.pointer (some ⟨sb,0,none⟩),.pointer (some ⟨p,0,none⟩),.int .i64 n] w (CC1 X w p S S0 c k sb #[.int .i64 ((pages:Int)+1),v1,v2,v3,.bool true] (S.G n)):=by
 have hp:=h.ok.pg n hn;have hfew:=h.ok.few
 have RD:=Ac (fun W (h:PT W X p S S0 c k)=>WG0 h hc hk hn)
 have OP:=Ac (fun W=>Zn (Kw (S.G n)) (by rw [Qh hp];decide) W)
 rw [FY0 hp] at OP;obtain ⟨s,hs⟩:∃ s,Kw (S.G n)=s:=⟨_,rfl⟩;obtain ⟨pg,hpg2⟩:∃ pg,S.G n=pg:=⟨_,rfl⟩;rw [hs] at RD OP;rw [hpg2] at OP ⊢;have HP:=Ac h;have HS:=Ac hsb;have HX:=Ac hX
 have q1:¬ (S.q:Int)<(pages:Int)+1:=by omega
 have q2:pages≤65536:=by omega
 clear h hsb hX hc hk hn hp hs hpg2 hpg
 go_enter Tryz.func57,Tryz.ntmps57
 have B0:=Ac (Ag w (.cells #[.int .i64 0,.int .i64 0,.slice none 0 0] 114));have R0:=Ac (Has.new w 114 #[.int .i64 0,.int .i64 0,.slice none 0 0]);have ltx:=Ac HP.out.lt
 go_wp2_with (first
  | (go_at_call 70;refine (RD.out _ (HP.out.below B0.out)).mono ?_;rintro en w1 ⟨rfl,X1,hp1,ht1⟩;have HP1:=Ac hp1;have HT1:=Ac ht1;clear hp1 ht1))
 refine (OP.out w1).mono ?_
 rintro en w2 ⟨A,cp,rfl,ho2,hb2⟩;have hs0:=HS.out.Aj B0.out;have hs1:=HT1.out.has hs0 HX.out;have hX1:=HT1.out.out HX.out hs0.lt;have hs2:=(hs1.Aj hb2).alloc (.cells #[.int .i64 pg.1,.int .i64 pg.2.1,.slice A pg.2.2.length cp] 114)
 have r1:=HT1.out.has R0.out (fun hm=>by have:=ltx.out _ hm;omega)
 have nR:=HT1.out.out (g:=w.heap.size) (fun hm=>by have:=ltx.out _ hm;omega) R0.out.lt
 have r2:=(r1.Aj hb2).alloc (.cells #[.int .i64 pg.1,.int .i64 pg.2.1,.slice A pg.2.2.length cp] 114);have n2:=Has.new w2 114 #[.int .i64 pg.1,.int .i64 pg.2.1,.slice A pg.2.2.length cp]
 have sbne:sb≠w2.heap.size:=by have:=(hs1.Aj hb2).lt;omega
 have sbn2:sb≠w.heap.size:=by have:=HS.out.lt;omega
 have b3:=Ag w2 (.cells #[.int .i64 pg.1,.int .i64 pg.2.1,.slice A pg.2.2.length cp] 114);have P3:=Ac (((HP1.out.below hb2).below b3).set hX1 0 (.int .i64 ((pages:Int)+1)));have g0:=hs2.cell 0;have gf:=hs2.frozen;have gz:=hs2.lt;have HS3:=Ac (hs2.set 0 (.int .i64 ((pages:Int)+1)))
 have R3:=Ac (r2.far (p:=⟨sb,0,none⟩) (fun e=>sbn2 e.symm) (.int .i64 ((pages:Int)+1)))
 have N3:=Ac (n2.far (p:=⟨sb,0,none⟩) (fun e=>sbne e.symm) (.int .i64 ((pages:Int)+1)))
 have HO2:=Ac ho2;have HB2:=Ac hb2;have HB3:=Ac b3;clear ho2 hb2 hs0 hs1 hs2 r1 r2 n2 b3
 go_wp2_with fail
 have TU3:=Ac (show Turn (some sb :: X) (some sb :: X1) w ((w2.alloc (.cells #[.int .i64 pg.1,.int .i64 pg.2.1,.slice A pg.2.2.length cp] 114)).setCell ⟨sb,0,none⟩ (.int .i64 ((pages:Int)+1))) from by
  have u:=(((Turn.below X B0.out).trans HT1.out).next HB2.out).next HB3.out
  refine ⟨u.os,u.tape,u.output,by have:=u.size;simpa using this,fun i hi hn2=>?_,fun i hi=>?_⟩
  ·exact (Below.heap_setCell _ _ _ _ (fun e=>hn2 (by rw [e];exact List.mem_cons_self))).trans (u.block i hi fun hm=>hn2 (List.mem_cons_of_mem _ hm))
  ·rcases List.mem_cons.1 hi with e | hi
   ·exact .inl (by rw [e];exact List.mem_cons_self)
   ·rcases u.new i hi with h1 | h1
    ·exact .inl (List.mem_cons_of_mem _ h1)
    ·exact .inr h1)
 have RW3:=Ac (show ((w2.alloc (.cells #[.int .i64 pg.1,.int .i64 pg.2.1,.slice A pg.2.2.length cp] 114)).setCell ⟨sb,0,none⟩ (.int .i64 ((pages:Int)+1))).ownsRow (w1.heap.size+1) 9 1 (.slice A pg.2.2.length cp) pg.2.2.length (strs pg.2.2) from
  ownsRow_setCell_below (a:=⟨sb,0,none⟩) (own_below HO2.out HB3.out) (by show sb<w1.heap.size+1;have:=(HT1.out.has (HS.out.Aj B0.out) HX.out).lt;omega) _)
 have hw1:w.heap.size≤w1.heap.size:=by have:=HT1.out.size;have:=B0.out.size;omega
 have nb2:some w2.heap.size∉X1:=fun hm=>by have:=HP1.out.lt _ hm;have:=HB2.out.size;omega
 have own1:=Ac (VZ0 HO2.out (X:=X1) fun i hi=>by have:=HP1.out.lt i hi;omega)
 obtain ⟨e2,he2⟩:∃ n,w2.heap.size=n:=⟨_,rfl⟩;rw [he2] at N3 nb2 ⊢;clear HB2 HB3 HO2 g0 gf gz sbne HT1 B0 R0 HP1 he2 ltx HP HS
 generalize ((w2.alloc (.cells #[.int .i64 pg.1,.int .i64 pg.2.1,.slice A pg.2.2.length cp] 114)).setCell ⟨sb,0,none⟩ (.int .i64 ((pages:Int)+1)))=w3 at *
 have PG:=Ac (fun n=>(JH0 (P3.out.below (below_drewN (Below.refl _ _) n))).mono (R':=fun e w'=>e = .returned (.int .i64 (S.q:Nat))∧w'=w3.drewN n) (by rintro e w' ⟨rfl,rfl⟩;exact ⟨rfl,rfl⟩))
 have g0:=HS3.out.cell 0;have gz:=HS3.out.lt
 have q3:decide ((S.q:Int)<(pages:Int)+1)=false:=decide_eq_false (by omega)
 go_quiet ((go_at_call 16;refine Calls.quiet_of_same (PG.out _)))
 have B4:=below_drewN (Below.refl w3.heap.size w3) nq;have P4:=Ac (P3.out.below B4);have HS4:=Ac (HS3.out.Aj B4);have R4:=Ac (R3.out.Aj B4);have N4:=Ac (N3.out.Aj B4);have T4:=Ac (TU3.out.next B4);have W4:=Ac (own_below RW3.out B4);clear P3 HS3 R3 N3 TU3 RW3 PG g0 gz B4
 generalize w3.drewN nq=w4 at *
 obtain ⟨n0,n1,n2⟩:=N4.out.cells3;have nz:=N4.out.lt;obtain ⟨y0,y1,y2⟩:=R4.out.cells3;have rf:=R4.out.frozen;have rz:=R4.out.lt
 go_wp2_with fail
 refine bodyPost_ret (v:=.agg #[.int .i64 pg.1,.int .i64 pg.2.1,.slice A pg.2.2.length cp]) (by simp [results,Tryz.results57,go_sem, *]) rfl ?_
 have o1:=ownsRow_setCell_below (a:=⟨w.heap.size,0,none⟩) W4.out (by show w.heap.size<_;omega) (.int .i64 pg.1)
 have o2:=ownsRow_setCell_below (a:=⟨w.heap.size,1,none⟩) o1 (by show w.heap.size<_;omega) (.int .i64 pg.2.1)
 have o3:=ownsRow_setCell_below (a:=⟨w.heap.size,2,none⟩) o2 (by show w.heap.size<_;omega) (.slice A pg.2.2.length cp)
 exact ⟨A,cp,X1,rfl,((P4.out.set nR 0 _).set nR 1 _).set nR 2 _,((T4.out.Di (Nat.le_refl _) 0 _).Di (Nat.le_refl _) 1 _).Di (Nat.le_refl _) 2 _,
  ((HS4.out.far (p:=⟨w.heap.size,0,none⟩) sbn2 _).far (p:=⟨w.heap.size,1,none⟩) sbn2 _).far (p:=⟨w.heap.size,2,none⟩) sbn2 _,hX1,own_base o3 (by omega),own1.out⟩
def PV0 (X:List (Option Nat)) (w:World) (p:Nat) (S S0:St) (c k:Nat) (en:Ending) (w':World):Prop :=
 en = .returned (.int .i64 (S.fr.length:Nat))∧∃ X',PT w' X' p S S0 c (k+S.fr.length+1)∧Turn X X' w w'
def GG1 (w:World) (X:List (Option Nat)) (p c k:Nat) (S S0:St) (g:Nat) (v4:Value) (wr:World):Prop :=
 ∃ dn rest X',S.fr=dn++rest∧rest.length=g∧v4 = .int .i64 (rest.headD 0:Nat)∧PT wr X' p S S0 c (k+1+dn.length)∧Turn X X' w wr∧Has wr w.heap.size 46 #[.int .i64 ((dn.length:Int)+1),.slice none 0 0,.slice none 0 0,.slice none 0 0,.bool true]∧some w.heap.size∉X'
theorem KN0 {G:Nat→Pg}:∀ {a b:List Nat},DH0 G (a++b)→DH0 G b
 | [],_,h=>h
 | _ :: a,b,h=>KN0 (a:=a) h.2
theorem YP0 {X X1 X2:List (Option Nat)} {w wr w':World} {sb:Nat} (h:Turn X X1 w wr) (k:Turn (some sb :: X1) (some sb :: X2) wr w') (hb:w.heap.size≤sb):Turn X X2 w w' :=
 h.loc k (fun g hg=>by
  rcases List.mem_cons.1 hg with e | hg
  ·exact .inr (by have:g=sb:=Option.some.inj e;omega)
  ·exact .inl hg) (fun g hg=>List.mem_cons_of_mem _ hg)
theorem MJ0 {w:World} {X:List (Option Nat)} {p c k:Nat} {S S0:St} (h:PT w X p S S0 c k) (hc:c≤60000) (hk:k+S.q≤800000000) :
 Calls Tryz.prog 15 #[.pointer (some ⟨p,0,none⟩)] w (PV0 X w p S S0 c k):=by
 have ok:=h.ok
 have hfl:S.fr.length+1≤S.q:=by
  have:=Rx S.q (0 :: S.fr) (List.nodup_cons.2 ⟨fun hm=>by have:=(ok.rng 0 hm).1;omega,ok.nd⟩) (fun q hq=>by
   rcases List.mem_cons.1 hq with e | hq
   ·rw [e];exact ok.pos
   ·exact (ok.rng q hq).2)
  simpa using this
 have HP:=Ac h;have OK:=Ac ok;have HC:=Ac (And.intro hc (And.intro hk hfl));have hfew:=ok.few;have B0:=Ag w (.cells #[.int .i64 0,.slice none 0 0,.slice none 0 0,.slice none 0 0,.bool true] 46);have S1:=Has.new w 46 #[.int .i64 0,.slice none 0 0,.slice none 0 0,.slice none 0 0,.bool true]
 have SX:some w.heap.size∉X:=fun hm=>by have:=h.lt _ hm;omega
 have P1:=h.below B0
 have OP:=Ac (Ll (pages:=0) P1 S1 SX hc (by omega) ok.pos (by omega))
 rw [ok.root] at OP;obtain ⟨h0,hh0⟩:∃ n,S.fr.headD 0=n:=⟨_,rfl⟩;rw [hh0] at OP;have HH:=Ac hh0;have U0:=Ac (Turn.below X B0);clear h ok hc hk hfl B0 S1 SX P1 hh0
 have hfd:∀ (a b d:Value) (W:World),(Instr.field 114 (.agg #[a,b,d]) 1).run Tryz.prog W = .ok b W:=fun a b d W=>by rfl
 go_enter Tryz.func15,Tryz.ntmps15
 go_wp2_with fail
 refine OP.out.mono ?_
 rintro en w1 ⟨A,cp,X1,rfl,hp1,ht1,hs1,hx1,_,_⟩;have P1:=Ac hp1;have S1:=Ac hs1;have SX:=Ac hx1;have U1:=Ac (YP0 U0.out ht1 (Nat.le_refl _));clear hp1 ht1 hs1 hx1 OP U0
 go_wp2_with fail
 go_loopg [4] S.fr.length (fun g v4 wr=>GG1 w X p c k S S0 g v4 wr)
 case atStart=>exact ⟨[],S.fr,X1,rfl,rfl,by rw [HH.out],P1.out,U1.out,S1.out,SX.out⟩
 case round =>
  obtain ⟨dn,rest,X2,q1,q2,rfl,q4,q5,q6,q7⟩:=hrel;clear P1 S1 SX U1;have g0:=q6.cell 0;have g4:=q6.cell 4;have gz:=q6.lt;have gf:=q6.frozen
  have hdl:dn.length+rest.length=S.fr.length:=by rw [q1,List.length_append]
  have Q1:=Ac q1;have Q2:=Ac q2;have Q4:=Ac q4;have Q5:=Ac q5;have Q6:=Ac q6;have Q7:=Ac q7
  cases rest with
  | nil =>
    have FIN:=Ac (show PV0 X w p S S0 c k (.returned (.int .i64 (dn.length:Nat))) wr from by
     have e:dn.length=S.fr.length:=by simpa using hdl
     exact ⟨by rw [e],X2,q4.more (Nat.le_refl _) (by omega),q5⟩)
    have hd6:(dn.length:Int)≤70000:=by have:=HC.out;simp at hdl;omega
    clear q1 q2 q4 q5 q6 q7 hdl
    go_wp2_with fail
    go_ret
    exact FIN.out
  | cons x r =>
    have hc2:=KN0 (a:=dn) (b:=x :: r) (by rw [← q1];exact OK.out.chain)
    have hrx:=OK.out.rng x (by rw [q1];simp)
    have n0:((x:Int) != 0)=true:=by rw [bne_iff_ne];have:=hrx.1;omega
    have OX:=Ac (Ll (pages:=dn.length+1) q4 q6 q7 HC.out.1 (by have:=HC.out;simp at hdl;omega) hrx.2 (by have:=HC.out;simp at hdl;omega))
    rw [hc2.1] at OX;obtain ⟨hr,hhr⟩:∃ n,r.headD 0=n:=⟨_,rfl⟩;rw [hhr] at OX;have HHR:=Ac hhr;have e1:(((x :: r).headD 0:Nat):Int)=(x:Int):=rfl;rw [e1];clear q1 q2 q4 q5 q6 q7 hc2 hhr e1
    go_wp2_with fail
    refine OX.out.mono ?_
    rintro en w2 ⟨A2,cp2,X3,rfl,hp3,ht3,hs3,hx3,_,_⟩;have b3:=Ag w2 (.cells #[.int .i64 3,.int .i64 hr,.slice A2 0 cp2] 114);have n3:=Has.new w2 114 #[.int .i64 3,.int .i64 hr,.slice A2 0 cp2];have s3:=hs3.alloc (.cells #[.int .i64 3,.int .i64 hr,.slice A2 0 cp2] 114);have P4:=Ac ((hp3.below b3).set hx3 4 (.bool true));have U4:=Ac (((YP0 Q5.out ht3 (Nat.le_refl _)).next b3).Di (Nat.le_refl _) 4 (.bool true))
    have S4:=Ac (s3.set 4 (.bool true));have X4:=Ac hx3;clear g0 g4 gz gf;have g0:=s3.cell 0;have g4:=s3.cell 4;have gz:=s3.lt;have gf:=s3.frozen;obtain ⟨y0,y1,y2⟩:=n3.cells3;have yz:=n3.lt
    have nee:w2.heap.size≠w.heap.size:=by have:=hs3.lt;omega
    clear hp3 ht3 hs3 hx3 b3 n3 s3 OX
    go_wp2_with fail
    go_roundg r.length
    case rel=>exact ⟨dn++[x],r,X3,by rw [Q1.out];simp,rfl,by rw [HHR.out],P4.out.more (Nat.le_refl _) (by simp;omega),U4.out,by
     have e:((dn++[x]).length:Int)+1=((dn.length+1:Nat):Int)+1:=by simp
     rw [e];exact S4.out,X4.out⟩
    case measure=>have:=Q2.out;simp at this;omega
theorem AX0 {w:World} {sb kl:Nat} {pv v0 v1 v2 v3:Value} {v:Ky} (h:Has w sb 46 #[v0,v1,v2,v3,.bool true]) (hz:2+kl+v.length≤240) :
 Calls Tryz.prog 58 #[.pointer (some ⟨sb,0,none⟩),pv,.int .i64 kl,.string (bsK (0 :: v))] w fun en w'=>en = .returned (.tuple #[])∧w'=w.setCell ⟨sb,4,none⟩ (.bool true):=by
 have z7:(bsK (0 :: v)).size=v.length+1:=by rw [Bo];simp
 have e0:=Vq (s:=bsK (0 :: v)) (by omega)
 have b0:∀ h0:0<(bsK (0 :: v)).size,((bsK (0 :: v))[0]'h0).toNat=0:=fun h0=>rfl
 obtain ⟨s,hs⟩:∃ s,bsK (0 :: v)=s:=⟨_,rfl⟩;rw [hs] at z7 e0 ⊢
 have b1:∀ h0:0<s.size,(s[0]'h0).toNat=0:=by subst hs;exact b0
 have hz0:0<s.size:=by omega
 have b2:=b1 hz0
 have e9:((s[0].toNat:Int) == 0)=true:=by rw [b2];rfl
 have i0:(0:Int)<(s.size:Int):=by omega
 have i5:2+(kl:Int)+(s.size:Int)-1≤240:=by omega
 have i6:s.size≤1000:=by omega
 have i7:kl≤1000:=by omega
 have g4:=h.cell 4;have gz:=h.lt;have gf:=h.frozen;clear h hz z7 hs b0 b1
 go_enter Tryz.func58,Tryz.ntmps58
 go_wp2_with fail
 exact bodyPost_ret (results_none rfl _ _ _) rfl ⟨rfl,rfl⟩
end Go.Proofs.YtjihboddejaelaaGreat
namespace Go.Proofs.YtjihboddejaelaaGreat
open Go.RowKit
structure Gat where
 lv:List Nat
 lk:List Nat
 ks:List Ky
 m:Nat
def Gat.nil:Gat:=⟨[],[],[],0⟩
def Gat.add (a b:Gat):Gat:=⟨a.lv++b.lv,a.lk++b.lk,a.ks++b.ks,a.m+b.m⟩
theorem Gat.add_assoc (a b c:Gat):(a.add b).add c=a.add (b.add c):=by simp [Gat.add,Nat.add_assoc]
theorem Gat.NE0 (a:Gat):Gat.nil.add a=a:=by simp [Gat.add,Gat.nil]
theorem Gat.add_nil (a:Gat):a.add Gat.nil=a:=by simp [Gat.add,Gat.nil]
def Bh:List Gat→Gat
 | []=>Gat.nil
 | g :: gs=>g.add (Bh gs)
theorem Yw (a b:List Gat):Bh (a++b)=(Bh a).add (Bh b):=by
 induction a with
 | nil=>exact (Gat.NE0 _).symm
 | cons x a ih=>rw [List.cons_append,Bh,ih,Bh,Gat.add_assoc]
def hiZ:List (Nat×Ky)→Ky→Ky
 | [],hi=>hi
 | z :: _,_=>z.2
theorem CV1 (a b:List (Nat×Ky)) (hi:Ky):hiZ (a++b) hi=hiZ a (hiZ b hi):=by cases a <;> rfl
def Su (R:Nat→Ky→Ky→Gat→Prop) (hi:Ky):List (Nat×Ky)→List Gat→Prop
 | [],[]=>True
 | z :: zs,g :: gs=>R z.1 z.2 (hiZ zs hi) g∧Su R hi zs gs
 | _,_=>False
theorem Su.split {R:Nat→Ky→Ky→Gat→Prop} {hi:Ky}:∀ {a b:List (Nat×Ky)} {gs:List Gat},Su R hi (a++b) gs→∃ ga gb,gs=ga++gb∧Su R (hiZ b hi) a ga∧Su R hi b gb
 | [],b,gs,h=>⟨[],gs,rfl,trivial,h⟩
 | z :: a,b,[],h=>h.elim
 | z :: a,b,g :: gs,h=>by
   obtain ⟨ga,gb,rfl,h1,h2⟩:=Su.split h.2
   refine ⟨g :: ga,gb,rfl,⟨?_,h1⟩,h2⟩
   rw [← CV1];exact h.1
theorem Su.len {R:Nat→Ky→Ky→Gat→Prop} {hi:Ky}:∀ {a:List (Nat×Ky)} {gs:List Gat},Su R hi a gs→gs.length=a.length
 | [],[],_=>rfl
 | [],_ :: _,h=>h.elim
 | _ :: _,[],h=>h.elim
 | _ :: a,_ :: gs,h=>by rw [List.length_cons,List.length_cons,Su.len h.2]
theorem Su.at {R:Nat→Ky→Ky→Gat→Prop} {hi:Ky}:∀ {a:List (Nat×Ky)} {gs:List Gat} {j:Nat},Su R hi a gs→(hj:j<a.length)→∃ g,gs[j]? = some g∧R a[j].1 a[j].2 (hiZ (a.drop (j+1)) hi) g
 | [],_,_,_,hj=>absurd hj (Nat.not_lt_zero _)
 | _ :: _,[],_,h,_=>h.elim
 | z :: a,g :: gs,0,h,_=>⟨g,rfl,h.1⟩
 | z :: a,g :: gs,j+1,h,hj=>by
   obtain ⟨l2,h1,h2⟩:=Su.at (j:=j) h.2 (by simpa using hj)
   exact ⟨l2,by simpa using h1,h2⟩
def itZ (i:It):Nat×Ky:=(Dz i.r,i.k)
def Shp (G:Nat→Pg) (q:Nat):Bool→Nat→Nat→Ky→Ky→Gat→Prop
 | rt,0,n,lo,hi,g=>∃ (lk:Nat) (its:List It) (E:List En) (P:List (List Nat)),G n=(1,lk,its.map Af)∧Mc G its E P∧(∀ i∈its,MD0 i∧leK lo i.k∧(hi=[]∨ltK i.k hi))∧(its.Pairwise fun a b=>ltK a.k b.k)∧(rt=true∨180≤Ai its)∧(∀ ps∈P,∀ x∈ps,0<x∧x<q)∧(0<n∧n<q)∧g=⟨[n],[lk],its.map (·.k),1+P.flatten.length⟩
 | rt,d+1,n,lo,hi,g=>∃ (its:List It) (gs:List Gat),G n=(2,Dz (its.headD ⟨[],[]⟩).r,(its.drop 1).map Af)∧2≤its.length∧(its.headD ⟨[],[]⟩).k=lo∧(∀ i∈its,szI i≤244∧i.k.length≤200∧i.r.length=4)∧(∀ i∈its.drop 1,leK lo i.k∧(hi=[]∨ltK i.k hi))∧(its.Pairwise fun a b=>ltK a.k b.k)∧(rt=true∨180≤Ai (its.drop 1))∧(0<n∧n<q)∧Su (Shp G q false d) hi (its.map itZ) gs∧g=(⟨[],[],[],1⟩:Gat).add (Bh gs)
def lkN:List Nd→Nat→List Nat
 | [],_=>[]
 | _ :: l,m=>hdN l m :: lkN l m
theorem CB1:∀ {L:List Nd} {m j:Nat},(hj:j<L.length)→(lkN L m)[j]? = some (if h:j+1<L.length then L[j+1].n else m)
 | [],_,_,hj=>absurd hj (Nat.not_lt_zero _)
 | [x],m,0,_=>rfl
 | x :: y :: l,m,0,_=>by simp [lkN,hdN]
 | [x],m,j+1,hj=>by simp at hj
 | x :: y :: l,m,j+1,hj=>by
   have:=CB1 (L:=y :: l) (m:=m) (j:=j) (by simpa using hj)
   simpa [lkN] using this
theorem OZ0:∀ (L:List Nd) (m:Nat),(lkN L m).length=L.length
 | [],_=>rfl
 | _ :: l,m=>by rw [lkN,List.length_cons,OZ0 l m,List.length_cons]
def nZ (x:Nd):Nat×Ky:=(x.n,x.lo)
section
variable {G:Nat→Pg} {root q:Nat} {rt:Bool}
theorem QP0:∀ {L:List Nd} {m:Nat} {E:List En} {P:List (List Nat)},AS0 G 0 L m→Wu L→(∀ x∈L,∀ i∈x.its,MD0 i)→(∀ x∈L,rt=true∨180≤Ai x.its)→(∀ x∈L,0<x.n∧x.n<q)→(∀ ps∈P,∀ x∈ps,0<x∧x<q)→Mc G (L.flatMap (·.its)) E P →
 ∃ gs,Su (Shp G q rt 0) [] (L.map nZ) gs∧Bh gs=⟨L.map (·.n),lkN L m,E.map (·.1),L.length+P.flatten.length⟩
 | [],m,E,P,_,_,_,_,_,_,he=>by
   obtain ⟨l1,l2⟩:=he.len;have e1:P=[]:=List.length_eq_zero_iff.1 l2;have e2:E=[]:=List.length_eq_zero_iff.1 l1;subst e1 e2;exact ⟨[],trivial,rfl⟩
 | x :: L,m,E,P,hp,ho,hk,hf,h0,h3,he=>by
   rw [List.flatMap_cons] at he;obtain ⟨E1,E2,P1,P2,rfl,rfl,h1,h2⟩:=he.split;obtain ⟨so,oo,hb⟩:=Ey.1 ho
   obtain ⟨gs,a1,a2⟩:=QP0 hp.2 oo (fun y hy=>hk y (List.mem_cons_of_mem _ hy)) (fun y hy=>hf y (List.mem_cons_of_mem _ hy)) (fun y hy=>h0 y (List.mem_cons_of_mem _ hy)) (fun ps hps=>h3 ps (List.mem_append_right _ hps)) h2
   have n0:=h0 x List.mem_cons_self
   refine ⟨⟨[x.n],[hdN L m],x.its.map (·.k),1+P1.flatten.length⟩ :: gs,⟨⟨_,x.its,E1,P1,hp.1 (by omega),h1,fun i hi=>⟨hk x List.mem_cons_self i hi,so.2 i hi, ?_⟩,so.1,hf x List.mem_cons_self,fun ps hps=>h3 ps (List.mem_append_left _ hps),n0,rfl⟩,a1⟩, ?_⟩
   ·cases L with
    | nil=>exact .inl rfl
    | cons y L=>exact .inr ((hb y List.mem_cons_self).2 i hi)
   ·rw [Bh,a2]
    simp only [Gat.add,List.map_cons,lkN,List.length_cons,List.flatten_append,List.length_append,List.map_append,h1.keys]
    refine congr (congr (congr rfl rfl) rfl) ?_
    omega
theorem XV0 {d:Nat}:∀ {L:List Nd} {gsD:List Gat},Wu L→(∀ x∈L,G x.n=Yr x∧2≤x.its.length∧x.its.head?.map (·.k)=some x.lo∧(∀ i∈x.its,szI i≤244∧i.k.length≤200∧i.r.length=4))→(∀ x∈L,rt=true∨180≤Ai (x.its.drop 1))→(∀ x∈L,0<x.n∧x.n<q) →
 Su (Shp G q false d) [] ((L.flatMap (·.its)).map itZ) gsD→∃ gs,Su (Shp G q rt (d+1)) [] (L.map nZ) gs∧Bh gs={ Bh gsD with m:=L.length+(Bh gsD).m }
 | [],gsD,_,_,_,_,h=>by
   cases gsD with
   | nil=>exact ⟨[],trivial,rfl⟩
   | cons a b=>exact h.elim
 | x :: L,gsD,ho,hx,hf,h0,h=>by
   rw [List.flatMap_cons,List.map_append] at h;obtain ⟨ga,gb,rfl,h1,h2⟩:=h.split;obtain ⟨so,oo,hb⟩:=Ey.1 ho
   obtain ⟨gs,a1,a2⟩:=XV0 oo (fun y hy=>hx y (List.mem_cons_of_mem _ hy)) (fun y hy=>hf y (List.mem_cons_of_mem _ hy)) (fun y hy=>h0 y (List.mem_cons_of_mem _ hy)) h2
   obtain ⟨b1,b2,b3,b4⟩:=hx x List.mem_cons_self
   have ehi:hiZ ((L.flatMap (·.its)).map itZ) []=hiZ (L.map nZ) []:=by
    cases L with
    | nil=>rfl
    | cons y L =>
      obtain ⟨_,_,c3,_⟩:=hx y (by simp)
      cases hi:y.its with
      | nil=>rw [hi] at c3;simp at c3
      | cons i r =>
        rw [hi] at c3;simp only [List.head?_cons,Option.map_some,Option.some.injEq] at c3;rw [List.flatMap_cons,hi];exact c3
   rw [ehi] at h1
   refine ⟨(⟨[],[],[],1⟩:Gat).add (Bh ga) :: gs,⟨⟨x.its,ga,b1,b2, ?_,b4,fun i hi=>⟨so.2 i (List.mem_of_mem_drop hi), ?_⟩,so.1,hf x List.mem_cons_self,h0 x List.mem_cons_self,h1,rfl⟩,a1⟩, ?_⟩
   ·cases hi:x.its with
    | nil=>rw [hi] at b3;simp at b3
    | cons i r =>
      rw [hi] at b3
      have b5:i.k=x.lo:=by simpa using b3
      exact b5
   ·cases L with
    | nil=>exact .inl rfl
    | cons y L=>exact .inr ((hb y List.mem_cons_self).2 i (List.mem_of_mem_drop hi))
   ·rw [Bh,a2,Yw]
    simp only [Gat.add,List.length_cons,List.nil_append]
    refine congr (congr (congr rfl rfl) rfl) ?_
    omega
def MG0:List Nd→List (List Nd)→List Nd
 | L,[]=>L
 | _,D :: r=>MG0 D r
theorem DQ0:∀ (L:List Nd) (Ds:List (List Nd)),(MG0 L Ds).flatMap (·.its)=Ig L Ds
 | L,[]=>rfl
 | _,D :: r=>DQ0 D r
theorem VP0:∀ {rt:Bool} {Ds:List (List Nd)} {L:List Nd} {E:List En} {P:List (List Nat)},Dwn G 0 root L Ds→(rt=true∨∀ x∈L,x.n≠root)→(∀ D r,Ds=D :: r→∀ p∈Ei D r,p≠root)→(∀ p∈Ei L Ds,0<p∧p<q)→q≤65536→(∀ ps∈P,∀ x∈ps,0<x∧x<q)→Mc G (Ig L Ds) E P →
 ∃ gs,Su (Shp G q rt Ds.length) [] (L.map nZ) gs∧Bh gs=⟨(MG0 L Ds).map (·.n),lkN (MG0 L Ds) 0,E.map (·.1),(Ei L Ds).length+P.flatten.length⟩
 | rt,[],L,E,P,h,hr,_,h0,hq,h3,he=>by
   have hm:∀ x∈L,0<x.n∧x.n<q:=fun x hx=>h0 x.n (List.mem_map_of_mem hx)
   obtain ⟨gs,a,b⟩:=QP0 (rt:=rt) (Hy.pages h) (Hy.ord h) (Hy.keys h) (fun x hx=>hr.imp id fun k=>(Hy.fit h x hx (by have:=hm x hx;omega)).ge (k x hx)) hm h3 he
   refine ⟨gs,a,b.trans ?_⟩
   show _=(⟨_,_,_,(L.map (·.n)).length+_⟩:Gat)
   rw [List.length_map];rfl
 | rt,D :: r,L,E,P,h,hr,hd,h0,hq,h3,he=>by
   have hd2:∀ p∈Ei D r,p≠root:=hd D r rfl
   obtain ⟨gsD,a1,a2⟩:=VP0 (rt:=false) (Ds:=r) h.2 (.inr fun x hx=>hd2 _ (Bg hx r)) (fun D2 r2 e p hp=>hd2 p (by subst e;exact List.mem_append_right _ hp)) (fun p hp=>h0 p (List.mem_append_right _ hp)) hq h3 he
   have hm:∀ x∈L,0<x.n∧x.n<q:=fun x hx=>h0 x.n (List.mem_append_left _ (List.mem_map_of_mem hx))
   have e1:D.map nZ=(L.flatMap (·.its)).map itZ:=by
    rw [h.1.its,List.map_map]
    refine List.map_congr_left fun y hy=>?_
    show (y.n,y.lo)=(Dz (Ak y.n),y.lo)
    rw [Du (by have:=(h0 y.n (List.mem_append_right _ (Bg hy r))).2;omega)]
   rw [e1] at a1
   have f0:∀ x∈L,x.n≠0:=fun x hx=>by have:=hm x hx;omega
   obtain ⟨gs,b1,b2⟩:=XV0 (rt:=rt) (L:=L) (Dwn.ord (Ds:=D :: r) h) (fun x hx=>⟨h.1.pages x hx (f0 x hx),(h.1.fit x hx (f0 x hx)).two rfl,h.1.head x hx,fun i hi=>by
    obtain ⟨c1,c2,c3⟩:=Dwn.sz (Ds:=D :: r) h hx hi
    exact ⟨c1,c2,c3 (by simp)⟩⟩) (fun x hx=>hr.imp id fun k=>(h.1.fit x hx (f0 x hx)).ge (k x hx)) hm a1
   refine ⟨gs,b1,b2.trans ?_⟩
   rw [a2]
   show (⟨_,_,_,_⟩:Gat)=(⟨_,_,_,(L.map (·.n)++Ei D r).length+_⟩:Gat)
   rw [List.length_append,List.length_map]
   refine congr (congr (congr rfl rfl) rfl) ?_
   show L.length+(_+_)=_
   omega
theorem EG0:∀ {L:List Nd},Wu L→(L.flatMap (·.its)).Pairwise fun a b=>ltK a.k b.k
 | [],_=>List.Pairwise.nil
 | x :: L,h=>by
   obtain ⟨so,oo,hb⟩:=Ey.1 h;rw [List.flatMap_cons]
   refine List.pairwise_append.2 ⟨so.1,EG0 oo,fun a ha b hb2=>?_⟩
   obtain ⟨y,hy,hby⟩:=List.mem_flatMap.1 hb2;exact Jw ((hb y hy).2 a ha) ((oo.2 y hy).2 b hby)
theorem IX0:∀ {Ds:List (List Nd)} {L:List Nd},Dwn G 0 root L Ds→Wu (MG0 L Ds)
 | [],_,h=>Hy.ord h
 | D :: r,_,h=>IX0 (Ds:=r) (L:=D) h.2
end
open Go.BigFrame
def EQ0 (l:List Ky):List Value:=l.map fun k=>Value.string (bsK k)
def Xo (l:List Nat):List Value:=l.map fun n:Nat=>Value.int .i64 (n:Int)
def shN (v:Value) (l:List Nat):Row:=⟨v,3,1,l.length,Xo l⟩
def shK (v:Value) (l:List Ky):Row:=⟨v,9,1,l.length,EQ0 l⟩
def shR (g:Gat) (v1 v2 v3:Value):List Row:=[shN v1 g.lv,shN v2 g.lk,shK v3 g.ks]
structure ShO (w:World) (Y X:List (Option Nat)) (sb:Nat) (g:Gat) (v1 v2 v3:Value):Prop where
 eq:Y=AQ0 sb (shR g v1 v2 v3)
 ob:Ob w sb 46 #[.int .i64 g.m,v1,v2,v3,.bool true] (shR g v1 v2 v3)
 dj:QR0 Y X
def ShM (w:World) (Y X:List (Option Nat)) (sb:Nat) (g:Gat):Prop:=∃ v1 v2 v3,ShO w Y X sb g v1 v2 v3
def Gat.more (g:Gat) (n:Nat):Gat:={ g with m:=g.m+n }
section
variable {w w':World} {X X' X1 Y Y':List (Option Nat)} {sb:Nat} {g:Gat} {v1 v2 v3:Value}
theorem Turn.FC1 (h:Turn Y Y' w w') (X:List (Option Nat)):Turn (Y++X) (Y'++X) w w' :=
 ⟨h.os,h.tape,h.output,h.size,fun k hk hn=>h.block k hk fun hm=>hn (List.mem_append_left _ hm),fun k hk=>by
   rcases List.mem_append.1 hk with hk | hk
   ·exact (h.new k hk).imp (List.mem_append_left _) id
   ·exact .inl (List.mem_append_right _ hk)⟩
theorem ShO.has (h:ShO w Y X sb g v1 v2 v3):Has w sb 46 #[.int .i64 g.m,v1,v2,v3,.bool true]:=h.ob.has
theorem ShO.lt (h:ShO w Y X sb g v1 v2 v3) {k:Nat} (hk:some k∈Y):k<w.heap.size:=by rw [h.eq] at hk;exact h.ob.lt hk
theorem ShO.mem (h:ShO w Y X sb g v1 v2 v3):some sb∈Y:=by rw [h.eq];exact List.mem_cons_self
theorem ShO.FL1 (h:ShO w Y X sb g v1 v2 v3):some sb∉X:=h.dj _ h.mem
theorem ShO.below (h:ShO w Y X sb g v1 v2 v3) (hb:Below w.heap.size w w'):ShO w' Y X sb g v1 v2 v3:=⟨h.eq,h.ob.below hb,h.dj⟩
theorem ShO.pool (h:ShO w Y X sb g v1 v2 v3) (ht:Turn (some sb :: X) (some sb :: X1) w w') {m:Nat} (hs:Has w' sb 46 #[.int .i64 m,v1,v2,v3,.bool true]) (hx:some sb∉X1) :
 ShO w' Y X1 sb { g with m:=m } v1 v2 v3∧Turn (Y++X) (Y++X1) w w':=by
 have hY:∀ k,some k∈Y→k≠sb→w'.heap[k]? = w.heap[k]? := fun k hk hn=>ht.block k (h.lt hk) fun hm=>by
  rcases List.mem_cons.1 hm with e | hm
  ·exact hn (Option.some.inj e)
  ·exact h.dj k hk hm
 refine ⟨⟨h.eq,⟨hs,fun r hr=>Ve (h.ob.rows r hr) fun k hk=>hY k (by rw [h.eq];exact List.mem_cons_of_mem _ (List.mem_map.2 ⟨r,hr,hk⟩)) fun e=>Qc h.ob.apart hr (by rw [hk,e]),h.ob.apart⟩,fun k hk hm=>?_⟩, ?_⟩
 ·rcases ht.new k (List.mem_cons_of_mem _ hm) with h1 | h1
  ·rcases List.mem_cons.1 h1 with e | h1
   ·exact hx (e ▸ hm)
   ·exact h.dj k hk h1
  ·have:=h.lt hk;omega
 ·refine ⟨ht.os,ht.tape,ht.output,ht.size,fun k hk hn=>ht.block k hk fun hm=>?_,fun k hk=>?_⟩
  ·rcases List.mem_cons.1 hm with e | hm
   ·exact hn (List.mem_append_left _ (e ▸ h.mem))
   ·exact hn (List.mem_append_right _ hm)
  ·rcases List.mem_append.1 hk with hk | hk
   ·exact .inl (List.mem_append_left _ hk)
   ·rcases ht.new k (List.mem_cons_of_mem _ hk) with h1 | h1
    ·rcases List.mem_cons.1 h1 with e | h1
     ·exact .inl (List.mem_append_left _ (e ▸ h.mem))
     ·exact .inl (List.mem_append_right _ h1)
    ·exact .inr h1
theorem ShO.ok (h:ShO w Y X sb g v1 v2 v3):ShO (w.setCell ⟨sb,4,none⟩ (.bool true)) Y X sb g v1 v2 v3∧Turn Y Y w (w.setCell ⟨sb,4,none⟩ (.bool true)) :=
 ⟨⟨h.eq,h.ob.set 4 (.bool true),h.dj⟩,by have:=Turn.set sb (shR g v1 v2 v3) 4 (.bool true) w;rw [← h.eq] at this;exact this⟩
theorem FI0 (l:List Nat) (n:Nat):Xo (l++[n])=Xo l++[.int .i64 n]:=by simp [Xo]
theorem SD0 (l:List Ky) (k:Ky):EQ0 (l++[k])=EQ0 l++[.string (bsK k)]:=by simp [EQ0]
theorem HY0 (h:QR0 Y X) {w:World} (ht:Turn Y Y' w w') (hX:∀ i,some i∈X→i<w.heap.size):QR0 Y' X:=fun k hk hm=>by
 rcases ht.new k hk with h1 | h1
 ·exact h k h1 hm
 ·have:=hX k hm;omega
theorem ShO.leaf (h:ShO w Y X sb g v1 v2 v3) (hX:∀ i,some i∈X→i<w.heap.size) {v':Value} {n:Nat} {wa w2:World} (hb:Below w.heap.size w wa) (hown:w2.ownsRow 0 3 1 v' (g.lv.length+1) (Xo g.lv++[.int .i64 n])) (hg:wa.grownBy w2 v1.ownBlock) (hat:v'.ownBlock=v1.ownBlock∨v'.ownBlock=some wa.heap.size) :
 ∃ Y',ShO (w2.setCell ⟨sb,1,none⟩ v') Y' X sb { g with lv:=g.lv++[n] } v' v2 v3∧Turn Y Y' w (w2.setCell ⟨sb,1,none⟩ v'):=by
 obtain ⟨r1,r2⟩:=(h.ob.below hb).row 0 (r:=shN v1 g.lv) (r':=shN v' (g.lv++[n])) rfl hg (by
  show w2.ownsRow 0 3 1 v' (g.lv++[n]).length (Xo (g.lv++[n]))
  rw [FI0,List.length_append];exact hown) (hat.imp id fun e k hk=>by
   have hk2:v'.ownBlock=some k:=hk
   rw [e] at hk2;cases hk2;exact Nat.le_refl _)
 have t1:=((Turn.below (AQ0 sb (shR g v1 v2 v3)) hb).trans r2).trans (Turn.set sb _ 1 v' w2);have t2:=t1;rw [← h.eq] at t2;exact ⟨_,⟨rfl,r1.set 1 v',HY0 h.dj t2 hX⟩,t2⟩
theorem ShO.link (h:ShO w Y X sb g v1 v2 v3) (hX:∀ i,some i∈X→i<w.heap.size) {v':Value} {n:Nat} {wa w2:World} (hb:Below w.heap.size w wa) (hown:w2.ownsRow 0 3 1 v' (g.lk.length+1) (Xo g.lk++[.int .i64 n])) (hg:wa.grownBy w2 v2.ownBlock) (hat:v'.ownBlock=v2.ownBlock∨v'.ownBlock=some wa.heap.size) :
 ∃ Y',ShO (w2.setCell ⟨sb,2,none⟩ v') Y' X sb { g with lk:=g.lk++[n] } v1 v' v3∧Turn Y Y' w (w2.setCell ⟨sb,2,none⟩ v'):=by
 obtain ⟨r1,r2⟩:=(h.ob.below hb).row 1 (r:=shN v2 g.lk) (r':=shN v' (g.lk++[n])) rfl hg (by
  show w2.ownsRow 0 3 1 v' (g.lk++[n]).length (Xo (g.lk++[n]))
  rw [FI0,List.length_append];exact hown) (hat.imp id fun e k hk=>by
   have hk2:v'.ownBlock=some k:=hk
   rw [e] at hk2;cases hk2;exact Nat.le_refl _)
 have t1:=((Turn.below (AQ0 sb (shR g v1 v2 v3)) hb).trans r2).trans (Turn.set sb _ 2 v' w2);have t2:=t1;rw [← h.eq] at t2;exact ⟨_,⟨rfl,r1.set 2 v',HY0 h.dj t2 hX⟩,t2⟩
theorem ShO.key (h:ShO w Y X sb g v1 v2 v3) (hX:∀ i,some i∈X→i<w.heap.size) {v':Value} {n:Ky} {wa w2:World} (hb:Below w.heap.size w wa) (hown:w2.ownsRow 0 9 1 v' (g.ks.length+1) (EQ0 g.ks++[.string (bsK n)])) (hg:wa.grownBy w2 v3.ownBlock) (hat:v'.ownBlock=v3.ownBlock∨v'.ownBlock=some wa.heap.size) :
 ∃ Y',ShO (w2.setCell ⟨sb,3,none⟩ v') Y' X sb { g with ks:=g.ks++[n] } v1 v2 v'∧Turn Y Y' w (w2.setCell ⟨sb,3,none⟩ v'):=by
 obtain ⟨r1,r2⟩:=(h.ob.below hb).row 2 (r:=shK v3 g.ks) (r':=shK v' (g.ks++[n])) rfl hg (by
  show w2.ownsRow 0 9 1 v' (g.ks++[n]).length (EQ0 (g.ks++[n]))
  rw [SD0,List.length_append];exact hown) (hat.imp id fun e k hk=>by
   have hk2:v'.ownBlock=some k:=hk
   rw [e] at hk2;cases hk2;exact Nat.le_refl _)
 have t1:=((Turn.below (AQ0 sb (shR g v1 v2 v3)) hb).trans r2).trans (Turn.set sb _ 3 v' w2);have t2:=t1;rw [← h.eq] at t2;exact ⟨_,⟨rfl,r1.set 3 v',HY0 h.dj t2 hX⟩,t2⟩
end
structure NbM (w wr:World) (Z Z':List (Option Nat)) (gx kd lk m cp:Nat) (A:Option Addr) (cs:List ByteArray):Prop where
 tu:Turn Z Z' w wr
 nb:Has wr gx 114 #[.int .i64 kd,.int .i64 lk,.slice A m cp]
 nx:some gx∉Z'
 ss:SS wr A m cs
 rx:∀ a,A=some a→some a.block∉Z'∧a.block<wr.heap.size
section
variable {w wr w2:World} {Z Z' Z2:List (Option Nat)} {gx kd lk m cp:Nat} {A:Option Addr} {cs:List ByteArray}
theorem NbM.turn (h:NbM w wr Z Z' gx kd lk m cp A cs) (ht:Turn Z' Z2 wr w2):NbM w w2 Z Z2 gx kd lk m cp A cs :=
 ⟨h.tu.trans ht,ht.has h.nb h.nx,ht.out h.nx h.nb.lt,h.ss.stay ht.size fun a e=>ht.block _ (h.rx a e).2 (h.rx a e).1,fun a e=>⟨ht.out (h.rx a e).1 (h.rx a e).2,Nat.lt_of_lt_of_le (h.rx a e).2 ht.size⟩⟩
theorem NbM.below (h:NbM w wr Z Z' gx kd lk m cp A cs) (hb:Below wr.heap.size wr w2):NbM w w2 Z Z' gx kd lk m cp A cs:=h.turn (Turn.below _ hb)
end
structure NdO (w wr:World) (Z Y X:List (Option Nat)) (p sb gx c k kd lk m cp:Nat) (A:Option Addr) (cs:List ByteArray) (S S0:St) (g:Gat) (v1 v2 v3:Value):Prop where
 pt:PT wr X p S S0 c k
 sh:ShO wr Y X sb g v1 v2 v3
 nb:NbM w wr Z (Y++X) gx kd lk m cp A cs
section
variable {w wr w2:World} {Z Y X X1:List (Option Nat)} {p sb gx c k k' kd lk m cp:Nat} {A:Option Addr} {cs:List ByteArray} {S S0:St} {g:Gat} {v1 v2 v3:Value}
theorem NdO.below (h:NdO w wr Z Y X p sb gx c k kd lk m cp A cs S S0 g v1 v2 v3) (hb:Below wr.heap.size wr w2):NdO w w2 Z Y X p sb gx c k kd lk m cp A cs S S0 g v1 v2 v3:=⟨h.pt.below hb,h.sh.below hb,h.nb.below hb⟩
theorem NdO.ok (h:NdO w wr Z Y X p sb gx c k kd lk m cp A cs S S0 g v1 v2 v3):NdO w (wr.setCell ⟨sb,4,none⟩ (.bool true)) Z Y X p sb gx c k kd lk m cp A cs S S0 g v1 v2 v3 :=
 ⟨h.pt.far h.sh.ok.2 h.sh.dj,h.sh.ok.1,h.nb.turn (h.sh.ok.2.FC1 X)⟩
theorem NdO.pool (h:NdO w wr Z Y X p sb gx c k kd lk m cp A cs S S0 g v1 v2 v3) (hp:PT w2 X1 p S S0 c k') (ht:Turn (some sb :: X) (some sb :: X1) wr w2) {n:Nat} (hs:Has w2 sb 46 #[.int .i64 n,v1,v2,v3,.bool true]) (hx:some sb∉X1) :
 NdO w w2 Z Y X1 p sb gx c k' kd lk m cp A cs S S0 { g with m:=n } v1 v2 v3 :=
 ⟨hp,(h.sh.pool ht hs hx).1,h.nb.turn (h.sh.pool ht hs hx).2⟩
theorem NdO.ne (h:NdO w wr Z Y X p sb gx c k kd lk m cp A cs S S0 g v1 v2 v3):gx≠sb:=fun e=>h.nb.nx (List.mem_append_left _ (e ▸ h.sh.mem))
theorem NdO.row (h:NdO w wr Z Y X p sb gx c k kd lk m cp A cs S S0 g v1 v2 v3) {a:Addr} (e:A=some a):a.block≠sb:=fun e2=>(h.nb.rx a e).1 (List.mem_append_left _ (e2 ▸ h.sh.mem))
theorem NdO.leaf (h:NdO w wr Z Y X p sb gx c k kd lk m cp A cs S S0 g v1 v2 v3) {v':Value} {n:Nat} {wa:World} (hb:Below wr.heap.size wr wa) (hown:w2.ownsRow 0 3 1 v' (g.lv.length+1) (Xo g.lv++[.int .i64 n])) (hg:wa.grownBy w2 v1.ownBlock) (hat:v'.ownBlock=v1.ownBlock∨v'.ownBlock=some wa.heap.size) :
 ∃ Y',NdO w (w2.setCell ⟨sb,1,none⟩ v') Z Y' X p sb gx c k kd lk m cp A cs S S0 { g with lv:=g.lv++[n] } v' v2 v3:=by
 obtain ⟨Y',h1,h2⟩:=h.sh.leaf h.pt.lt hb hown hg hat;exact ⟨Y',h.pt.far h2 h.sh.dj,h1,h.nb.turn (h2.FC1 X)⟩
theorem NdO.link (h:NdO w wr Z Y X p sb gx c k kd lk m cp A cs S S0 g v1 v2 v3) {v':Value} {n:Nat} {wa:World} (hb:Below wr.heap.size wr wa) (hown:w2.ownsRow 0 3 1 v' (g.lk.length+1) (Xo g.lk++[.int .i64 n])) (hg:wa.grownBy w2 v2.ownBlock) (hat:v'.ownBlock=v2.ownBlock∨v'.ownBlock=some wa.heap.size) :
 ∃ Y',NdO w (w2.setCell ⟨sb,2,none⟩ v') Z Y' X p sb gx c k kd lk m cp A cs S S0 { g with lk:=g.lk++[n] } v1 v' v3:=by
 obtain ⟨Y',h1,h2⟩:=h.sh.link h.pt.lt hb hown hg hat;exact ⟨Y',h.pt.far h2 h.sh.dj,h1,h.nb.turn (h2.FC1 X)⟩
theorem NdO.key (h:NdO w wr Z Y X p sb gx c k kd lk m cp A cs S S0 g v1 v2 v3) {v':Value} {n:Ky} {wa:World} (hb:Below wr.heap.size wr wa) (hown:w2.ownsRow 0 9 1 v' (g.ks.length+1) (EQ0 g.ks++[.string (bsK n)])) (hg:wa.grownBy w2 v3.ownBlock) (hat:v'.ownBlock=v3.ownBlock∨v'.ownBlock=some wa.heap.size) :
 ∃ Y',NdO w (w2.setCell ⟨sb,3,none⟩ v') Z Y' X p sb gx c k kd lk m cp A cs S S0 { g with ks:=g.ks++[n] } v1 v2 v':=by
 obtain ⟨Y',h1,h2⟩:=h.sh.key h.pt.lt hb hown hg hat;exact ⟨Y',h.pt.far h2 h.sh.dj,h1,h.nb.turn (h2.FC1 X)⟩
end
theorem NdO.grown {w wr wa w2:World} {Z Y X:List (Option Nat)} {p sb gx c k kd lk m cp:Nat} {A:Option Addr} {cs:List ByteArray} {S S0:St} {g:Gat} {v1 v2 v3:Value} (h:NdO w wr Z Y X p sb gx c k kd lk m cp A cs S S0 g v1 v2 v3) (hb:Below wr.heap.size wr wa) (i:Nat) {r:Row} (hr:(shR g v1 v2 v3)[i]? = some r) (hg:wa.grownBy w2 r.v.ownBlock) :
 Has w2 sb 46 #[.int .i64 g.m,v1,v2,v3,.bool true]∧Has w2 gx 114 #[.int .i64 kd,.int .i64 lk,.slice A m cp]∧SS w2 A m cs∧wr.heap.size≤w2.heap.size:=by
 have hm:r∈shR g v1 v2 v3:=List.mem_of_getElem? hr
 have hk:∀ b,b<wr.heap.size→(some b∉Y∨b=sb)→w2.heap[b]? = wr.heap[b]? := fun b hl hn=>by
  refine (hg.block b (Nat.lt_of_lt_of_le hl hb.size) fun e=>?_).trans (hb.block b hl)
  rcases hn with hn | hn
  ·exact hn (by rw [h.sh.eq,e];exact List.mem_cons_of_mem _ (List.mem_map.2 ⟨r,hm,rfl⟩))
  ·exact Qc h.sh.ob.apart hm (by rw [← e,hn])
 have hz:wr.heap.size≤w2.heap.size:=Nat.le_trans hb.size hg.size
 refine ⟨(hk sb h.sh.has.lt (.inr rfl)).trans h.sh.has,(hk gx h.nb.nb.lt (.inl fun e=>h.nb.nx (List.mem_append_left _ e))).trans h.nb.nb,h.nb.ss.stay hz fun a e=>hk a.block (h.nb.rx a e).2 (.inl fun e2=>(h.nb.rx a e).1 (List.mem_append_left _ e2)),hz⟩
def Uz (Z:List (Option Nat)) (w:World) (p:Nat) (S S0:St) (c k sb:Nat) (g:Gat) (v:Value) (en:Ending) (w':World):Prop :=
 en = .returned v∧∃ Y' X',PT w' X' p S S0 c k∧ShM w' Y' X' sb g∧Turn Z (Y'++X') w w'
theorem NdO.post {w wr:World} {Z Y X:List (Option Nat)} {p sb gx c k kd lk m cp:Nat} {A:Option Addr} {cs:List ByteArray} {S S0:St} {g:Gat} {v1 v2 v3:Value} (h:NdO w wr Z Y X p sb gx c k kd lk m cp A cs S S0 g v1 v2 v3) (v:Value):Uz Z w p S S0 c k sb g v (.returned v) wr :=
 ⟨rfl,Y,X,h.pt,⟨v1,v2,v3,h.sh⟩,h.nb.tu⟩
theorem NdO.start {w w1:World} {X Y:List (Option Nat)} {p sb c k kd lk:Nat} {cs:List ByteArray} {S S0:St} {g:Gat} {v1 v2 v3:Value} {en:Ending} (hs:ShO w Y X sb g v1 v2 v3) (h:CC1 X w p S S0 c k sb #[.int .i64 ((g.m:Int)+1),v1,v2,v3,.bool true] (kd,lk,cs) en w1) :
 ∃ A cp X1,en = .returned (.agg #[.int .i64 kd,.int .i64 lk,.slice A cs.length cp])∧NdO w (w1.alloc (.cells #[.int .i64 kd,.int .i64 lk,.slice A cs.length cp] 114)) (Y++X) Y X1 p sb w1.heap.size c (k+1) kd lk cs.length cp A cs S S0 (g.more 1) v1 v2 v3:=by
 obtain ⟨A,cp,X1,rfl,hp,ht,hh,hx,ho,hb⟩:=h;have hb3:=Ag w1 (.cells #[.int .i64 kd,.int .i64 lk,.slice A cs.length cp] 114);obtain ⟨q1,q2⟩:=hs.pool ht (m:=g.m+1) hh hx
 refine ⟨A,cp,X1,rfl,hp.below hb3,q1.below hb3,q2.next hb3,Has.new _ _ _,fun hm=>?_,(SS.Dv ho).keep hb3,fun a e=>?_⟩
 ·rcases List.mem_append.1 hm with hm | hm
  ·have:=q1.lt hm;omega
  ·have:=hp.lt _ hm;omega
 ·have e2:(Value.slice A cs.length cp).ownBlock=some a.block:=by rw [e];rfl
  obtain ⟨l1,l2⟩:=ho.lt _ e2
  refine ⟨fun hm=>?_,Nat.lt_of_lt_of_le l2 hb3.size⟩
  rcases List.mem_append.1 hm with hm | hm
  ·have:=hs.lt hm;omega
  ·exact hb _ e2 hm
def keyAt (its:List It) (j:Nat):Ky:=if j=0 then [] else (its.getD (j-1) ⟨[],[]⟩).k
theorem GF0 {its:List It} {j:Nat} (hj:j<its.length):keyAt its (j+1)=its[j].k:=by
 unfold keyAt
 rw [if_neg (by omega),Nat.add_sub_cancel,List.getD_eq_getElem?_getD,List.getElem?_eq_getElem hj];rfl
def Few (g:Gat):Prop:=g.lv.length+g.lk.length+g.ks.length≤30000000
theorem Few.left {a b:Gat} (h:Few (a.add b)):Few a:=by
 have h2:(a.lv++b.lv).length+(a.lk++b.lk).length+(a.ks++b.ks).length≤30000000:=h;rw [List.length_append,List.length_append,List.length_append] at h2
 show _≤_
 omega
theorem Few.mono {a b:Gat} (h:Few b) (h1:a.lv.length≤b.lv.length) (h2:a.lk.length≤b.lk.length) (h3:a.ks.length≤b.ks.length):Few a:=by
 have h4:b.lv.length+b.lk.length+b.ks.length≤30000000:=h
 show _≤_
 omega
def PQ0 (p sb d c:Nat) (S S0:St):Prop:=∀ (w:World) (X Y:List (Option Nat)) (k n:Nat) (rt:Bool) (lo hi:Ky) (g0 g:Gat),PT w X p S S0 c k→ShM w Y X sb g0→k+g.m≤800000000→g0.m+g.m≤S.q→Few (g0.add g)→Shp S.G S.q rt d n lo hi g →
 Calls Tryz.prog 14 #[.pointer (some ⟨sb,0,none⟩),.pointer (some ⟨p,0,none⟩),.int .i64 n,.string (bsK lo),.string (bsK hi),.bool rt] w (Uz (Y++X) w p S S0 c (k+g.m) sb (g0.add g) (.int .i64 ((d+1:Nat):Int)))
def GA1 (w:World) (Z Y X:List (Option Nat)) (p sb gx c k kd lk m cp:Nat) (A:Option Addr) (cs:List ByteArray) (S S0:St) (g:Gat) (v1 v2 v3:Value) (its:List It) (gg:Nat) (v14 v15 v28:Value) (wr:World):Prop :=
 ∃ j:Nat,j+gg=m∧v28 = .int .i64 j∧v14 = .int .i64 (Ai (its.take j):Nat)∧v15 = .string (bsK (keyAt its j))∧NdO w wr Z Y X p sb gx c k kd lk m cp A cs S S0 g v1 v2 v3
theorem FW0 {its:List It} {j:Nat} (hj:j<its.length):Ai (its.take (j+1))=Ai (its.take j)+(4+(Af its[j]).size):=by
 rw [List.take_succ_eq_append_getElem hj,Dw,BN0];simp [Ai]
theorem Yn (its:List It) (j:Nat):Ai (its.take j)≤Ai its:=by
 conv=>rhs;rw [← List.take_append_drop j its]
 rw [Dw];omega
def WU0 (p sb d c:Nat) (S S0:St):Prop:=∀ (w:World) (X Y:List (Option Nat)) (k lk cp:Nat) (A:Option Addr) (cs:List ByteArray) (lo hi:Ky) (g0:Gat) (its:List It) (gs:List Gat),PT w X p S S0 c k→ShM w Y X sb g0→k+(Bh gs).m≤800000000→g0.m+(Bh gs).m≤S.q→Few (g0.add (Bh gs)) →
 2≤its.length→Dz (its.headD ⟨[],[]⟩).r=lk→(its.headD ⟨[],[]⟩).k=lo→(∀ i∈its,szI i≤244∧i.k.length≤200∧i.r.length=4)→Su (Shp S.G S.q false d) hi (its.map itZ) gs→(its.drop 1).map Af=cs→SS w A cs.length cs→(∀ a,A=some a→some a.block∉Y++X∧a.block<w.heap.size)→cs.length≤253 →
 Calls Tryz.prog 59 #[.pointer (some ⟨sb,0,none⟩),.pointer (some ⟨p,0,none⟩),.agg #[.int .i64 2,.int .i64 lk,.slice A cs.length cp],.string (bsK lo),.string (bsK hi)] w (Uz (Y++X) w p S S0 c (k+(Bh gs).m) sb (g0.add (Bh gs)) (.int .i64 ((d+2:Nat):Int)))
theorem or4:∀ a b c d:Nat,a<256→b<256→c<256→d<256→bits .or .i64 (bits .or .i64 (bits .or .i64 ((a:Int)*16777216) ((b:Int)*65536)) ((c:Int)*256)) (d:Int)=((a*16777216+b*65536+c*256+d:Nat):Int):=by
 intro a b c d ha hb hc hd
 have e1:=Vo 24 (a*16777216) (b*65536) (by omega) (by omega) (by omega)
 have e2:=Vo 16 (a*16777216+b*65536) (c*256) (by omega) (by omega) (by omega)
 have e3:=Vo 8 (a*16777216+b*65536+c*256) d (by omega) (by omega) (by omega)
 rw [← e3,← e2,← e1];simp only [Int.natCast_mul];rfl
def FE1 (w:World) (X:List (Option Nat)) (p c k sb pages:Nat) (S S0:St) (v1 v2 v3:Value) (v:Ky) (ps:List Nat) (g:Nat) (v8 v9:Value) (wr:World):Prop :=
 ∃ (sz:Nat) (rest:List Nat) (u:Ky) (X':List (Option Nat)) (m:Nat),rest.length=g∧m+rest.length=ps.length∧v8 = .int .i64 sz∧v9 = .int .i64 (rest.headD 0:Nat)∧sz+u.length=v.length∧CF1 S.G rest u∧(∀ x∈rest,0<x∧x<S.q)∧PT wr X' p S S0 c (k+m)∧Turn (some sb :: X) (some sb :: X') w wr∧Has wr sb 46 #[.int .i64 (pages+m:Nat),v1,v2,v3,.bool true]∧some sb∉X'
theorem Turn.CN1 {X:List (Option Nat)} {g:Nat} (hg:some g∈X) (i:Nat) (v:Value) (w:World):Turn X X w (w.setCell ⟨g,i,none⟩ v) :=
 ⟨rfl,rfl,rfl,by simp [World.setCell],fun k _ hk=>Below.heap_setCell _ _ _ _ (fun e=>hk (by rw [show k=g from e];exact hg)),fun _ h=>.inl h⟩
def FN1 (w0:World) (sz al:Nat) (g:Nat) (v8 v103:Value) (wr:World):Prop :=
 ∃ j:Nat,j+g=1∧v103 = .int .i64 j∧v8 = .int .i64 (sz+j*al:Nat)∧wr=w0
def HO0 (X:List (Option Nat)) (w:World) (p:Nat) (S S0:St) (c k sb:Nat) (cs:Array Value) (en:Ending) (w':World):Prop :=
 en = .returned (.tuple #[])∧∃ X',PT w' X' p S S0 c k∧Turn (some sb :: X) (some sb :: X') w w'∧Has w' sb 46 cs∧some sb∉X'
theorem DT0 {w:World} {X:List (Option Nat)} {p c k sb kl pages:Nat} {S S0:St} {v1 v2 v3:Value} {v:Ky} {ps:List Nat} (h:PT w X p S S0 c k) (hsb:Has w sb 46 #[.int .i64 (pages:Nat),v1,v2,v3,.bool true]) (hX:some sb∉X) (hc:c≤60000) (hk:k+ps.length≤800000000) (hpg:pages+ps.length≤S.q)
 (hv:CF1 S.G ps v) (hr:∀ x∈ps,0<x∧x<S.q) (hl:v.length≤3000) (hz:240<2+kl+v.length) (hkl:kl≤200) (hq:S.q≤65536) (hd:ps.headD 0≤65536) :
 Calls Tryz.prog 58 #[.pointer (some ⟨sb,0,none⟩),.pointer (some ⟨p,0,none⟩),.int .i64 kl,.string (bsK (Jp v.length (ps.headD 0)))] w (HO0 X w p S S0 c (k+ps.length) sb #[.int .i64 (pages+ps.length:Nat),v1,v2,v3,.bool true]):=by
 have z7:(bsK (Jp v.length (ps.headD 0))).size=7:=by rw [Bo];simp [Jp,Ak]
 have e0:=Vq (s:=bsK (Jp v.length (ps.headD 0))) (by omega)
 have hn4:Dz (Ak (ps.headD 0))=ps.headD 0:=Du (by omega)
 obtain ⟨n,hn⟩:∃ n,ps.headD 0=n:=⟨_,rfl⟩;rw [hn] at z7 e0 hn4 ⊢
 have b0:∀ h0:0<(bsK (Jp v.length n)).size,((bsK (Jp v.length n))[0]'h0).toNat=1:=fun h0=>rfl
 have b3:∀ (h3:3<(bsK (Jp v.length n)).size) (h4:4<(bsK (Jp v.length n)).size) (h5:5<(bsK (Jp v.length n)).size) (h6:6<(bsK (Jp v.length n)).size),((bsK (Jp v.length n))[3]'h3).toNat*16777216+((bsK (Jp v.length n))[4]'h4).toNat*65536+((bsK (Jp v.length n))[5]'h5).toNat*256+((bsK (Jp v.length n))[6]'h6).toNat=n:=fun _ _ _ _=>by
  show (UInt8.ofNat (n / 16777216)).toNat*16777216+(UInt8.ofNat (n / 65536)).toNat*65536+(UInt8.ofNat (n / 256)).toNat*256+(UInt8.ofNat n).toNat=n
  simp only [UInt8.toNat_ofNat'];omega
 have b1:∀ (h1:1<(bsK (Jp v.length n)).size) (h2:2<(bsK (Jp v.length n)).size),((bsK (Jp v.length n))[1]'h1).toNat*256+((bsK (Jp v.length n))[2]'h2).toNat=v.length:=fun _ _=>by
  show (UInt8.ofNat (v.length / 256)).toNat*256+(UInt8.ofNat v.length).toNat=v.length
  rw [UInt8.toNat_ofNat',UInt8.toNat_ofNat'];omega
 obtain ⟨s,hs⟩:∃ s,bsK (Jp v.length n)=s:=⟨_,rfl⟩;rw [hs] at z7 e0 ⊢
 have a0:∀ h0:0<s.size,(s[0]'h0).toNat=1:=by subst hs;exact b0
 have a1:∀ (h1:1<s.size) (h2:2<s.size),(s[1]'h1).toNat*256+(s[2]'h2).toNat=v.length:=by subst hs;exact b1
 have a3:∀ (h3:3<s.size) (h4:4<s.size) (h5:5<s.size) (h6:6<s.size),(s[3]'h3).toNat*16777216+(s[4]'h4).toNat*65536+(s[5]'h5).toNat*256+(s[6]'h6).toNat=n:=by subst hs;exact b3
 clear b0 b1 b3 hs hn4
 have l0:0<s.size:=by omega
 have l1:1<s.size:=by omega
 have l2:2<s.size:=by omega
 have l3:3<s.size:=by omega
 have l4:4<s.size:=by omega
 have l5:5<s.size:=by omega
 have l6:6<s.size:=by omega
 have b2:=a0 l0
 have e9:((s[0].toNat:Int) == 0)=false:=by rw [b2];rfl
 have e8:((s[0].toNat:Int) == 1)=true:=by rw [b2];rfl
 have z8:((s.size:Int) != 7)=false:=by rw [bne_eq_false_iff_eq];omega
 have A1:=Ac (a1 l1 l2);have A3:=Ac (a3 l3 l4 l5 l6)
 have i0:(0:Int)<(s.size:Int):=by omega
 have i1:(1:Int)<(s.size:Int):=by omega
 have i2:(2:Int)<(s.size:Int):=by omega
 have i3:(3:Int)<(s.size:Int):=by omega
 have i4:(4:Int)<(s.size:Int):=by omega
 have i5:(5:Int)<(s.size:Int):=by omega
 have i6:(6:Int)<(s.size:Int):=by omega
 have c1:=Ci s[1];have c2:=Ci s[2];have c3:=Ci s[3];have c4:=Ci s[4];have c5:=Ci s[5];have c6:=Ci s[6];have HP:=Ac h;have HS:=Ac hsb;have HX:=Ac hX;have HV:=Ac (And.intro hv (And.intro hr (And.intro hl hz)));have HC:=Ac (And.intro hc (And.intro hk (And.intro hpg (And.intro hkl hq))));have HN:=Ac hn;clear h hsb hX hv hr hl hz hc hk hpg hkl hq a0 a1 a3 b2 hd hn z7
 go_enter Tryz.func58,Tryz.ntmps58
 go_wp2_with fail
 refine Bz (w) (by kernel_rfl) (by kernel_rfl) (Cls.start _) ?_
 repeat
  first
   | go_big_quiet_skip
   | (go_big_quiet_want;(first | go_big_quiet_op | go_simp);first | go_big_quiet_on | (apply Exists.intro;refine ⟨fun w' hw'=>?_, ?_⟩;(·(first | (with_reducible exact rfl) | (fail) | (obtain ⟨hc,hf⟩:=hw'.facts;go_simp;first | done | (with_reducible exact rfl) | (with_reducible exact ⟨rfl,rfl⟩))));go_big_quiet_on))
 refine wpQuiet_nil ?_
 intro wq hq;have P0:=Ac (HP.out.below hq.bel);have S0':=Ac (HS.out.Aj hq.bel);have U0:=Ac (Turn.below (some sb :: X) hq.bel)
 have NV:=Ac (fun v9 (h9:v9=Value.int .i64 (bits .or .i64 (bits .or .i64 (bits .or .i64 ((s[3].toNat:Int)*16777216) ((s[4].toNat:Int)*65536)) ((s[5].toNat:Int)*256)) (s[6].toNat:Int)))=>show v9=Value.int .i64 (n:Nat) from by
  rw [h9,or4 _ _ _ _ (Ci _) (Ci _) (Ci _) (Ci _),A3.out])
 go_wp2_with fail
 go_loopg [8,9] ps.length (fun g v8 v9 wr=>FE1 w X p c k sb pages S S0 v1 v2 v3 v ps g v8 v9 wr)
 case atStart =>
  refine ⟨0,ps,v,X,0,rfl,by simp,rfl,(NV.out _ rfl).trans (by rw [HN.out]),by simp,HV.out.1,HV.out.2.1,P0.out,U0.out,S0'.out,HX.out⟩
 case round =>
  obtain ⟨sz,rest,u,X1,m,q1,qm,rfl,rfl,q2,q3,q4,q5,q6,q7,q8⟩:=hrel;clear P0 S0' U0 NV hq;have g0:=q7.cell 0;have g4:=q7.cell 4;have gz:=q7.lt;have gf:=q7.frozen
  cases rest with
  | nil =>
    have hu:u=[]:=q3;subst hu
    have hsz:sz=v.length:=by simpa using q2
    subst hsz;have hv3:=HV.out.2.2;have A2:=A1.out
    have O4:bits .or .i64 (IntKind.i64.wrap (IntKind.i64.wrap (s[1].toNat:Int)*256)) (IntKind.i64.wrap (s[2].toNat:Int))=(v.length:Int):=by
     have w1:IntKind.i64.wrap (s[1].toNat:Int)=(s[1].toNat:Int):=IntWalk.i64_in _ ⟨by omega,by omega⟩
     have w2:IntKind.i64.wrap (s[2].toNat:Int)=(s[2].toNat:Int):=IntWalk.i64_in _ ⟨by omega,by omega⟩
     have w3:IntKind.i64.wrap ((s[1].toNat:Int)*256)=(s[1].toNat:Int)*256:=IntWalk.i64_in _ ⟨by omega,by omega⟩
     have o:=Vo 8 (s[1].toNat*256) s[2].toNat (by omega) (by omega) (by omega)
     rw [w1,w2,w3,← A2,← o];simp only [Int.natCast_mul];rfl
    have I8:=Ac (show decide ((240:Int)<2+(kl:Int)+(v.length:Int))=true from decide_eq_true (by omega))
    have i9:v.length≤3000:=hv3.1;have k9:kl≤200:=HC.out.2.2.2.1
    have FIN:=Ac (fun b (hb:b=true)=>show HO0 X w p S S0 c (k+ps.length) sb #[.int .i64 (pages+ps.length:Nat),v1,v2,v3,.bool true] (.returned (.tuple #[])) (wr.setCell ⟨sb,4,none⟩ (.bool b)).drew from by
     subst hb
     have em:m=ps.length:=by simpa using qm
     have B5:=(Below.refl (wr.setCell ⟨sb,4,none⟩ (.bool true)).heap.size (wr.setCell ⟨sb,4,none⟩ (.bool true))).drew;subst em
     exact ⟨rfl,X1,(q5.set q8 4 _).below B5,(q6.trans (Turn.CN1 List.mem_cons_self 4 _ wr)).next B5,(q7.set 4 (.bool true)).Aj B5,q8⟩)
    clear q1 q2 q3 q4 q5 q6 q7 q8
    go_wp2_with fail
    clear A2
    go_still_tail 29,(by kernel_rfl)
    change wpList _ _ _ _ _ wr.drew
    go_wp2_with fail
    exact bodyPost_ret (results_none rfl _ _ _) rfl (FIN.out _ I8.out)
  | cons x r =>
    obtain ⟨a,b,rfl,ha,hG,hv2⟩:=q3;have hrx:=q4 x List.mem_cons_self
    have n0:((x:Int) != 0)=true:=by rw [bne_iff_ne];have:=hrx.1;omega
    have qm2:m+(r.length+1)=ps.length:=by simpa using qm
    have OX:=Ac (Ll (pages:=pages+m) (n:=x) q5 q7 q8 HC.out.1 (by have:=HC.out;omega) hrx.2 (by have:=HC.out;omega))
    rw [hG] at OX;obtain ⟨hr,hhr⟩:∃ n,r.headD 0=n:=⟨_,rfl⟩;rw [hhr] at OX;have HHR:=Ac hhr;have e1:(((x :: r).headD 0:Nat):Int)=(x:Int):=rfl;rw [e1];have zab:(bsK a).size=a.length:=Bo a;obtain ⟨ab,hab⟩:∃ s,bsK a=s:=⟨_,rfl⟩;rw [hab] at OX zab
    have HV2:=Ac (And.intro hv2 (And.intro (fun y hy=>q4 y (List.mem_cons_of_mem _ hy)) (And.intro q1 (And.intro qm2 q2))))
    have i20:sz+a.length≤3000:=by have:=HV.out.2.2.1;rw [List.length_append] at q2;omega
    have Q6:=Ac q6;clear q1 q2 q4 q5 q6 q7 q8 hG hv2 hhr hab e1 ha qm qm2
    go_wp2_with fail
    refine OX.out.mono ?_
    rintro en w2 ⟨A2,cp2,X3,rfl,hp3,ht3,hs3,hx3,ho3,hx9⟩;have ss:=SS.Dv ho3
    obtain ⟨bA,oA,eA,lA,cA⟩:=ss.2 (by show 0<1;omega)
    subst eA;have cj:=cA 0 ab rfl;have b3:=Ag w2 (.cells #[.int .i64 5,.int .i64 hr,.slice (some ⟨bA,oA,none⟩) 1 cp2] 114);have n3:=Has.new w2 114 #[.int .i64 5,.int .i64 hr,.slice (some ⟨bA,oA,none⟩) 1 cp2];have s3:=hs3.alloc (.cells #[.int .i64 5,.int .i64 hr,.slice (some ⟨bA,oA,none⟩) 1 cp2] 114);have P4:=Ac ((hp3.below b3).set hx3 4 (.bool true));have U4:=Ac (((Q6.out.trans ht3).next b3).trans (Turn.CN1 List.mem_cons_self 4 (.bool true) _))
    have S4:=Ac (s3.set 4 (.bool true));have X4:=Ac hx3
    have nab:bA≠sb:=fun e=>by have:=(ho3.lt bA rfl).1;omega
    clear g0 g4 gz gf;have g0:=s3.cell 0;have g4:=s3.cell 4;have gz:=s3.lt;have gf:=s3.frozen;obtain ⟨y0,y1,y2⟩:=n3.cells3;have yz:=n3.lt
    have nee:w2.heap.size≠sb:=by have:=hs3.lt;omega
    have FA:Hid (bA<w2.heap.size):=Ac lA;clear hp3 ht3 hs3 hx3 b3 n3 s3 OX ss cA ho3 hx9
    go_wp2_with fail
    have Z1:=Ac (show Has ((w2.alloc (.cells #[.int .i64 5,.int .i64 hr,.slice (some ⟨bA,oA,none⟩) 1 cp2] 114)).setCell ⟨sb,4,none⟩ (.bool true)) w2.heap.size 114 #[.int .i64 5,.int .i64 hr,.slice (some ⟨bA,oA,none⟩) 1 cp2] from (Has.new w2 114 _).far (p:=⟨sb,4,none⟩) nee _)
    have cj2:((w2.alloc (.cells #[.int .i64 5,.int .i64 hr,.slice (some ⟨bA,oA,none⟩) 1 cp2] 114)).setCell ⟨sb,4,none⟩ (.bool true)).cell? ⟨bA,oA+0,none⟩=some (.string ab):=by
     exact (World.cell?_setCell_other _ ⟨sb,4,none⟩ ⟨bA,oA+0,none⟩ _ (by simp [nab])).trans ((World.cell?_alloc_past _ bA (oA+0) lA).trans cj)
    have lb2:bA<((w2.alloc (.cells #[.int .i64 5,.int .i64 hr,.slice (some ⟨bA,oA,none⟩) 1 cp2] 114)).setCell ⟨sb,4,none⟩ (.bool true)).heap.size:=by simp;omega
    clear cj lA g0 g4 gz gf y0 y1 y2 yz
    generalize ((w2.alloc (.cells #[.int .i64 5,.int .i64 hr,.slice (some ⟨bA,oA,none⟩) 1 cp2] 114)).setCell ⟨sb,4,none⟩ (.bool true))=W3 at *
    go_loopg [8,103] 1 (fun g v8 v103 wr=>FN1 W3 sz a.length g v8 v103 wr)
    case atStart=>exact ⟨0,rfl,rfl,by simp,rfl⟩
    case round =>
     obtain ⟨j,j1,rfl,rfl,rfl⟩:=hrel;obtain ⟨y0,y1,y2⟩:=Z1.out.cells3;have yz:=Z1.out.lt;have yf:=Z1.out.frozen
     rcases (show j=0∨j=1 by omega) with rfl | rfl
     ·simp only [Nat.zero_mul,Nat.add_zero] at *
      go_wp2_with fail
      go_roundg 0
      case rel=>exact ⟨1,rfl,rfl,congrArg (Value.int .i64) (by omega),rfl⟩
      case measure=>omega
     ·simp only [Nat.one_mul]
      go_wp2_with fail
      go_roundg r.length
      case rel =>
       refine ⟨sz+a.length,r,b,X3,m+1,rfl,by have:=HV2.out.2.2.2.1;omega,rfl,by rw [HHR.out],by have:=HV2.out.2.2.2.2;rw [List.length_append] at this;omega,HV2.out.1,HV2.out.2.1,P4.out,U4.out, ?_,X4.out⟩
       rw [show ((pages+(m+1):Nat):Int)=((pages+m:Nat):Int)+1 by omega]
       exact S4.out
      case measure=>have:=HV2.out.2.2.1;simp at this;omega
theorem EU0 {w:World} {X:List (Option Nat)} {p c k sb pages:Nat} {S S0:St} {v1 v2 v3:Value} {it:It} {v:Ky} {ps:List Nat} (h:PT w X p S S0 c k) (hsb:Has w sb 46 #[.int .i64 (pages:Nat),v1,v2,v3,.bool true]) (hX:some sb∉X) (hc:c≤60000) (hk:k+ps.length≤800000000) (hpg:pages+ps.length≤S.q)
 (hi:ItV S.G it v ps) (hr:∀ x∈ps,0<x∧x<S.q) (hkl:it.k.length≤200) (hq:S.q≤65536) :
 Calls Tryz.prog 58 #[.pointer (some ⟨sb,0,none⟩),.pointer (some ⟨p,0,none⟩),.int .i64 it.k.length,.string (bsK it.r)] w (HO0 X w p S S0 c (k+ps.length) sb #[.int .i64 (pages+ps.length:Nat),v1,v2,v3,.bool true]):=by
 rcases hi with ⟨a,b,rfl⟩ | ⟨a,b,hv,d,e⟩
 ·rw [a]
  refine (AX0 (pv:=.pointer (some ⟨p,0,none⟩)) hsb b).mono ?_
  rintro en w' ⟨rfl,rfl⟩;exact ⟨rfl,X,h.set hX 4 _,Turn.CN1 List.mem_cons_self 4 _ w,hsb.set 4 _,hX⟩
 ·rw [a]
  refine DT0 h hsb hX hc hk hpg e hr hv b hkl hq ?_
  cases ps with
  | nil=>exact Nat.zero_le _
  | cons x r=>have:=(hr x List.mem_cons_self).2;show x≤_;omega
def GH1 (w:World) (Z:List (Option Nat)) (p sb gx c k lk m cp:Nat) (A:Option Addr) (cs:List ByteArray) (S S0:St) (g1:Gat) (v1 v2:Value) (its:List It) (P:List (List Nat)) (gg:Nat) (v138:Value) (wr:World):Prop :=
 ∃ (j:Nat) (Y X:List (Option Nat)) (u3:Value),j+gg=m∧v138 = .int .i64 j∧NdO w wr Z Y X p sb gx c (k+1+(P.take j).flatten.length) 1 lk m cp A cs S S0 ⟨g1.lv,g1.lk,g1.ks++(its.take j).map (·.k),g1.m+(P.take j).flatten.length⟩ v1 v2 u3
theorem WC0 {w:World} {X Y:List (Option Nat)} {p c k sb n:Nat} {rt:Bool} {lo hi:Ky} {S S0:St} {g0 g:Gat} (h:PT w X p S S0 c k) (hs:ShM w Y X sb g0) (hc:c≤60000) (hk:k+g.m≤800000000) (hpg:g0.m+g.m≤S.q) (hg:Shp S.G S.q rt 0 n lo hi g) (hgl:g0.lv.length+g0.lk.length+g0.ks.length≤30000000) :
 Calls Tryz.prog 14 #[.pointer (some ⟨sb,0,none⟩),.pointer (some ⟨p,0,none⟩),.int .i64 n,.string (bsK lo),.string (bsK hi),.bool rt] w (Uz (Y++X) w p S S0 c (k+g.m) sb (g0.add g) (.int .i64 1)):=by
 obtain ⟨lk,its,E,P,q1,q2,q3,q4,q5,q6,q7,rfl⟩:=hg;obtain ⟨v1,v2,v3,hs⟩:=hs;obtain ⟨j0,hj0,hjz,hjy,hjb⟩:=info_parts DH1;obtain ⟨l0,hl0,hlz,hly,hlb⟩:=info_parts Np;have hp:=h.ok.pg n q7.2;have h5:=Oy hp;have hu:=hp.2.2.2;rw [q1] at h5 hu;have hfew:=h.ok.few
 have OP:=Ac (Ll (pages:=g0.m) (n:=n) h hs.has hs.FL1 hc (by dsimp only at hk;omega) q7.2 (by dsimp only at hpg;omega))
 rw [q1] at OP;rw [Ee] at hu;obtain ⟨cs,hcs⟩:∃ l,its.map Af=l:=⟨_,rfl⟩;dsimp only at h5 hu hk hpg;rw [hcs] at h5 OP
 have hml:its.length=cs.length:=by rw [← hcs,List.length_map]
 obtain ⟨PL,hPL⟩:∃ m,P.flatten.length=m:=⟨_,rfl⟩;have HPL:=Ac hPL;rw [hPL] at hk hpg;rw [hPL];clear hPL;have HS:=Ac hs;have HE:=Ac (And.intro q2 (And.intro q3 (And.intro q4 (And.intro q5 q6))));have HC:=Ac (And.intro hc (And.intro hk (And.intro hpg (And.intro hml (And.intro hcs hu)))));have HGL:=Ac hgl;have i0:cs.length≤253:=h5;obtain ⟨LO,hLO⟩:∃ s,bsK lo=s:=⟨_,rfl⟩;obtain ⟨HI,hHI⟩:∃ s,bsK hi=s:=⟨_,rfl⟩
 rw [hLO,hHI];have HLO:=Ac (And.intro hLO hHI);clear h hs hc hk hpg q1 q2 q3 q4 q5 q6 q7 hp h5 hu hfew hcs hml hgl hLO hHI
 go_enter Tryz.func14,Tryz.ntmps14
 go_wp2_with fail
 refine OP.out.mono ?_
 intro en w1 hop;obtain ⟨A,cp,X1,rfl,hnd⟩:=NdO.start HS.out hop;have D0:=Ac hnd;obtain ⟨y0,y1,y2⟩:=hnd.nb.nb.cells3;have yz:=hnd.nb.nb.lt;have yf:=hnd.nb.nb.frozen;clear hop hnd OP
 go_wp2_with fail
 generalize hW:w1.alloc (.cells #[.int .i64 1,.int .i64 lk,.slice A cs.length cp] 114)=W1 at *
 generalize hgx:w1.heap.size=gx at *
 clear hW hgx y0 y1 y2 yz yf
 go_loopg [14,15,28] cs.length (fun gg v14 v15 v28 wr=>GA1 w (Y++X) Y X1 p sb gx c (k+1) 1 lk cs.length cp A cs S S0 (g0.more 1) v1 v2 v3 its gg v14 v15 v28 wr)
 case atStart=>exact ⟨0,by omega,rfl,rfl,rfl,D0.out⟩
 case round =>
  obtain ⟨j,r1,rfl,rfl,rfl,r5⟩:=hrel;clear D0;have D1:=Ac r5;have s4:=r5.sh.has.cell 4;have sz:=r5.sh.has.lt;have sf:=r5.sh.has.frozen;obtain ⟨y0,y1,y2⟩:=r5.nb.nb.cells3;have yz:=r5.nb.nb.lt;have yf:=r5.nb.nb.frozen
  by_cases hj:j<cs.length
  ·have hj1:(j:Int)<(cs.length:Int):=by omega
   have hji:j<its.length:=by have:=HC.out.2.2.2.1;omega
   obtain ⟨bA,oA,eA,lA,cA⟩:=r5.nb.ss.2 (by omega)
   have cj:=cA j (Af its[j]) (by rw [← HC.out.2.2.2.2.1,List.getElem?_map,List.getElem?_eq_getElem hji];rfl)
   have ko:=HE.out.2.1 its[j] (List.getElem_mem _);obtain ⟨h0,k1,k2,k3⟩:=cell0 its[j] ko.1.le;have z1:=Ef its[j];have z2:=ko.1.sz;unfold szI at z2;have ut:=FW0 hji;have ul:=Yn its (j+1);have KA:=Ac (GF0 hji);have UT:=Ac ut;have hu:=HC.out.2.2.2.2.2
   have c1:Op.bytesLess (bsK its[j].k).toList LO.toList=false:=by rw [← HLO.out.1,Pj];exact ko.2.1
   have c2:hi≠[]→Op.bytesLess (bsK its[j].k).toList HI.toList=true:=fun hn=>by rw [← HLO.out.2,Pj];exact ko.2.2.resolve_left hn
   have c4:j≠0→Op.bytesLess (bsK its[j].k).toList (bsK (keyAt its j)).toList=false∧((bsK its[j].k).toList == (bsK (keyAt its j)).toList)=false:=fun hn=>by
    have hlt:ltK (keyAt its j) its[j].k:=by
     unfold keyAt
     rw [if_neg hn,List.getD_eq_getElem?_getD,List.getElem?_eq_getElem (show j-1<its.length by omega)]
     exact List.pairwise_iff_getElem.1 HE.out.2.2.1 (j-1) j (by omega) hji (by omega)
    rw [Pj,PW0]
    refine ⟨He hlt, ?_⟩
    rw [beq_eq_false_iff_ne]
    exact fun e=>Hq _ (e ▸ hlt)
   have e0:=Vq h0
   have kk:∀ h:0<(Af its[j]).size,((Af its[j])[0]'h).toNat=its[j].k.length:=fun _=>k1
   clear k1
   have i2:Ai (its.take j)≤1012:=by omega
   obtain ⟨U,hU⟩:∃ u,Ai (its.take j)=u:=⟨_,rfl⟩;rw [hU] at i2 UT ut;rw [hU];obtain ⟨C,hC⟩:∃ c,Af its[j]=c:=⟨_,rfl⟩;obtain ⟨K,hK⟩:∃ c,bsK its[j].k=c:=⟨_,rfl⟩;obtain ⟨L,hL⟩:∃ c,bsK (keyAt its j)=c:=⟨_,rfl⟩;obtain ⟨kl,hkl⟩:∃ c,its[j].k.length=c:=⟨_,rfl⟩;have HK:=Ac hK;rw [hK] at c1 c2 c4 k2;rw [hL] at c4 ⊢;rw [hkl] at kk k2 z1 z2;rw [hC] at h0 kk k2 z1 cj e0 UT;have k1:=kk h0;clear kk
   have i3:(0:Int)<(C.size:Int):=by omega
   have i4:C.size≤300:=by omega
   have e1:decide ((C.size:Int)<(1:Int)+(C[0].toNat:Int))=false:=by rw [k1];simp;omega
   have i5:(1:Int)+(C[0].toNat:Int)≤(C.size:Int):=by rw [k1];omega
   have b0:=Ci C[0];rw [← k1] at k2;have ne1:=r5.ne;have ne2:=r5.row eA;subst eA;clear r5 cA ko z1 z2 ut ul hu hK hL hkl hC hU k1 k3;have FU:Hid (j<cs.length):=Ac hj
   by_cases hj0:j=0
   ·have jz:((j:Int) == 0)=true:=by rw [hj0];rfl
    clear c4 hj0
    by_cases hh:hi=[]
    ·have c3:HI.toList.isEmpty=true:=by rw [← HLO.out.2,hh,Lib.toList_data,Dn];rfl
     clear c2 hh
     go_wp2_with fail
     go_roundg (cs.length-(j+1))
     case rel=>exact ⟨j+1,by omega,by simp,congrArg (Value.int .i64) (by rw [UT.out];omega),by rw [KA.out,HK.out],D1.out.ok⟩
     case measure=>omega
    ·have c3:HI.toList.isEmpty=false:=by
      rw [← HLO.out.2,Lib.toList_data,Dn]
      cases hi with
      | nil=>exact absurd rfl hh
      | cons a l=>rfl
     have c5:=c2 hh;clear c2 hh
     go_wp2_with fail
     go_roundg (cs.length-(j+1))
     case rel=>exact ⟨j+1,by omega,by simp,congrArg (Value.int .i64) (by rw [UT.out];omega),by rw [KA.out,HK.out],D1.out.ok⟩
     case measure=>omega
   ·have jz:((j:Int) == 0)=false:=by rw [beq_eq_false_iff_ne];omega
    obtain ⟨c6,c7⟩:=c4 hj0;clear c4 hj0
    by_cases hh:hi=[]
    ·have c3:HI.toList.isEmpty=true:=by rw [← HLO.out.2,hh,Lib.toList_data,Dn];rfl
     clear c2 hh
     go_wp2_with fail
     go_roundg (cs.length-(j+1))
     case rel=>exact ⟨j+1,by omega,by simp,congrArg (Value.int .i64) (by rw [UT.out];omega),by rw [KA.out,HK.out],D1.out.ok⟩
     case measure=>omega
    ·have c3:HI.toList.isEmpty=false:=by
      rw [← HLO.out.2,Lib.toList_data,Dn]
      cases hi with
      | nil=>exact absurd rfl hh
      | cons a l=>rfl
     have c5:=c2 hh;clear c2 hh
     go_wp2_with fail
     go_roundg (cs.length-(j+1))
     case rel=>exact ⟨j+1,by omega,by simp,congrArg (Value.int .i64) (by rw [UT.out];omega),by rw [KA.out,HK.out],D1.out.ok⟩
     case measure=>omega
  ·obtain rfl:j=cs.length:=by omega
   have hj1:¬ (cs.length:Int)<(cs.length:Int):=by omega
   have hTk:its.take cs.length=its:=List.take_of_length_le (by have:=HC.out.2.2.2.1;omega)
   have hu:=HC.out.2.2.2.2.2;have hus:=HE.out.2.2.2.1;rw [hTk];obtain ⟨U,hU⟩:∃ u,Ai its=u:=⟨_,rfl⟩;rw [hU] at hu hus;rw [hU];have ne1:=r5.ne;clear r5 hTk hU
   go_upto_region 15 with fail
   go_cut [103] from 90 to 103 (fun _ wx=>wx=wr.setCell ⟨sb,4,none⟩ (.bool true))
   case first =>
    cases rt with
    | true =>
      clear hus
      go_wp2_with fail
      go_meet
      rfl
    | false =>
      have i7:(180:Int)≤(U:Int):=by have:=hus.resolve_left (by simp);omega
      clear hus
      go_wp2_with fail
      go_meet
      rfl
   case rest =>
    have hd2:=D1.out.ok;rw [← hcut] at hd2;have D2:=Ac hd2;clear hcut D1 s4 sz sf y0 y1 y2 yz yf hus hd2;have s4:=D2.out.sh.has.cell 4;have s1:=D2.out.sh.has.cell 1;have sz:=D2.out.sh.has.lt;have sf:=D2.out.sh.has.frozen;obtain ⟨y0,y1,y2⟩:=D2.out.nb.nb.cells3;have yz:=D2.out.nb.nb.lt;have yf:=D2.out.nb.nb.frozen
    have G1:=Ac (show g0.lv.length+1≤maxLen by unfold maxLen;have:=HGL.out;omega)
    have G2:=Ac (show (g0.lv.length+1)*8≤140737488355328 by have:=HGL.out;omega)
    go_wp2_with (at_builtin;refine Dh _ rfl (.tmp 118) (.tmp 120) 43 43 rfl 0 3 j0 _ 1 8 Tryz.underlying43 hj0 hjz hjy hjb AP0 (by decide) v1 g0.lv.length (Xo g0.lv) rfl ((D2.out.sh.ob.own 0 rfl).alloc _) (.slice (some ⟨wc.heap.size,0,none⟩) 1 1) 1 [.int .i64 n] rfl (Src.ofSlice _ Tryz.underlying43 ⟨wc.heap.size,0,none⟩ 1 1 [.int .i64 n] rfl (World.news_of_block (heap_alloc_new wc _)) (by simp [Value.oneCell'])) G1.out G2.out (Nat.zero_le _) ?_;intro v5 w5 hown5 hg5 _ hat5;obtain ⟨A5,c5,rfl,_⟩:=Bd hown5;have HO5:=Ac hown5;have HG5:=Ac hg5;have HA5:=Ac hat5;obtain ⟨f1,f2,f3,f4⟩:=D2.out.grown ((Below.refl _ _).alloc (Nat.le_refl _) _) 0 rfl hg5;have F1:=Ac f1;have F2:=Ac f2;have F4:=Ac f4;have t1:=f1.cell 1;have t4:=f1.cell 4;have tz:=f1.lt;have tf:=f1.frozen;clear hown5 hg5 hat5 f1 f2 f3 f4)
    obtain ⟨Y2,hd3⟩:=D2.out.leaf (n:=n) ((Below.refl _ _).alloc (Nat.le_refl _) _) HO5.out HG5.out HA5.out;have D3:=Ac hd3;clear hd3 HO5 HG5 HA5 F1 F2 F4 t1 t4 tz tf D2 s4 s1 sz sf y0 y1 y2 yz yf
    generalize (w5.setCell ⟨sb,1,none⟩ (.slice A5 (g0.lv.length+1) c5))=W3 at *
    have s2:=D3.out.sh.has.cell 2;have sz:=D3.out.sh.has.lt;have sf:=D3.out.sh.has.frozen;obtain ⟨y0,y1,y2⟩:=D3.out.nb.nb.cells3;have yz:=D3.out.nb.nb.lt;have yf:=D3.out.nb.nb.frozen
    have G3:=Ac (show g0.lk.length+1≤maxLen by unfold maxLen;have:=HGL.out;omega)
    have G4:=Ac (show (g0.lk.length+1)*8≤140737488355328 by have:=HGL.out;omega)
    clear G1 G2
    go_upto_region 20 with fail
    go_cut [134] from 124 to 134 (fun _ wx=>∃ Y3 u2,NdO w wx (Y++X) Y3 X1 p sb gx c (k+1) 1 lk cs.length cp A cs S S0 ⟨g0.lv++[n],g0.lk++[lk],g0.ks,g0.m+1⟩ (.slice A5 (g0.lv.length+1) c5) u2 v3)
    case first =>
     go_region_law (refine Hg (by rfl) _ _ _ _ (by rfl) 0 3 j0 _ 1 8 Tryz.underlying43 hj0 hjz hjy hjb AP0 (by omega) v2 g0.lk.length (Xo g0.lk) (by rfl) ((D3.out.sh.ob.own 1 rfl).drew.alloc _) _ 1 [.int .i64 lk] (by rfl) (Src.ofSlice _ Tryz.underlying43 ⟨_,0,none⟩ 1 1 [.int .i64 lk] rfl (World.news_of_block (heap_alloc_new _ _)) (by simp [Value.oneCell'])) G3.out G4.out (Nat.zero_le _) ?_;intro A6 c6 w6 hown6 hg6 hat6;have HO6:=Ac hown6;have HG6:=Ac hg6;have HA6:=Ac hat6;obtain ⟨f1,f2,f3,f4⟩:=D3.out.grown (((Below.refl _ _).drew).alloc (Nat.le_refl _) _) 1 rfl hg6;have t1:=f1.cell 2;have tz:=f1.lt;have tf:=f1.frozen;clear hown6 hg6 hat6 f1 f2 f3 f4)
     all_goals
      go_wp2_with fail
      go_meet
      obtain ⟨Y3,hd4⟩:=D3.out.link (n:=lk) (((Below.refl _ _).drew).alloc (Nat.le_refl _) _) HO6.out HG6.out HA6.out;exact ⟨Y3,_,hd4⟩
    case rest =>
     obtain ⟨Y3,u2,hd4⟩:=hcut;have D4:=Ac hd4;clear hd4 D3 s2 sz sf y0 y1 y2 yz yf G3 G4;obtain ⟨y0,y1,y2⟩:=D4.out.nb.nb.cells3;have yz:=D4.out.nb.nb.lt;have yf:=D4.out.nb.nb.frozen
     go_wp2_with fail
     go_loopg [138] cs.length (fun gg v138 wr=>GH1 w (Y++X) p sb gx c k lk cs.length cp A cs S S0 ⟨g0.lv++[n],g0.lk++[lk],g0.ks,g0.m+1⟩ (.slice A5 (g0.lv.length+1) c5) u2 its P gg v138 wr)
     case atStart=>exact ⟨0,Y3,X1,v3,by omega,rfl,by simpa using D4.out⟩
     case round =>
      obtain ⟨j,Y4,X4,u3,r1,rfl,r3⟩:=hrel;clear D4 y0 y1 y2 yz yf;have D5:=Ac r3;have s3:=r3.sh.has.cell 3;have s4:=r3.sh.has.cell 4;have sz:=r3.sh.has.lt;have sf:=r3.sh.has.frozen;obtain ⟨y0,y1,y2⟩:=r3.nb.nb.cells3;have yz:=r3.nb.nb.lt;have yf:=r3.nb.nb.frozen
      by_cases hj:j<cs.length
      ·have hj1:(j:Int)<(cs.length:Int):=by omega
       have hji:j<its.length:=by have:=HC.out.2.2.2.1;omega
       obtain ⟨bA,oA,eA,lA,cA⟩:=r3.nb.ss.2 (by omega)
       have cj:=cA j (Af its[j]) (by rw [← HC.out.2.2.2.2.1,List.getElem?_map,List.getElem?_eq_getElem hji];rfl)
       have ko:=HE.out.2.1 its[j] (List.getElem_mem _);obtain ⟨vv,ps,hps,hiv⟩:=HE.out.1.at hji;obtain ⟨h0,k1,k2,k3⟩:=cell0 its[j] ko.1.le;have z1:=Ef its[j];have z2:=ko.1.sz;unfold szI at z2
       have hP:P=P.take j++ps :: P.drop (j+1):=by
        obtain ⟨hl9,e9⟩:=List.getElem?_eq_some_iff.1 hps;rw [← e9,← List.drop_eq_getElem_cons hl9,List.take_append_drop]
       have hPf:P.flatten.length=(P.take j).flatten.length+(ps.length+(P.drop (j+1)).flatten.length):=by
        conv=>lhs;rw [hP]
        rw [List.flatten_append,List.flatten_cons,List.length_append,List.length_append]
       have hT:(P.take (j+1)).flatten.length=(P.take j).flatten.length+ps.length:=by
        rw [List.take_add_one,hps,List.flatten_append,List.length_append];simp
       have hT2:(its.take (j+1)).map (·.k)=(its.take j).map (·.k)++[its[j].k]:=by
        rw [List.take_succ_eq_append_getElem hji,List.map_append];rfl
       have hpr:=HE.out.2.2.2.2 ps (List.mem_of_getElem? hps);have kle:=ko.1.le;have hfew:=r3.pt.ok.few;obtain ⟨F,hF⟩:∃ f,(P.take j).flatten.length=f:=⟨_,rfl⟩
       obtain ⟨KS,hKS⟩:∃ f,(its.take j).map (·.k)=f:=⟨_,rfl⟩
       obtain ⟨KA,hKA⟩:∃ f,g0.ks++KS=f:=⟨_,rfl⟩
       have hksl:KA.length≤30000253:=by
        have:=HGL.out;rw [← hKA,← hKS,List.length_append,List.length_map,List.length_take];omega
       rw [hF,hKS,hKA] at D5 r3;rw [hF] at hPf hT;rw [hKS] at hT2;have HT:=Ac (And.intro hT (And.intro hT2 hKA));have hPf2:=hPf;rw [HPL.out] at hPf2
       have MO:=Ac (fun W X u (h:PT W X p S S0 c (k+1+F)) (hh:Has W sb 46 #[.int .i64 (g0.m+1+F:Nat),.slice A5 (g0.lv.length+1) c5,u2,u,.bool true]) hx=>EU0 (it:=its[j]) (v:=vv) (ps:=ps) h hh hx HC.out.1 (by have:=HC.out.2.1;omega) (by have:=HC.out.2.2.1;omega) hiv hpr kle hfew)
       have kk:∀ h:0<(Af its[j]).size,((Af its[j])[0]'h).toNat=its[j].k.length:=fun _=>k1
       clear k1;obtain ⟨C,hC⟩:∃ c,Af its[j]=c:=⟨_,rfl⟩;obtain ⟨R,hR⟩:∃ c,bsK its[j].r=c:=⟨_,rfl⟩;obtain ⟨kl,hkl⟩:∃ c,its[j].k.length=c:=⟨_,rfl⟩;obtain ⟨IK,hIK⟩:∃ c,its[j].k=c:=⟨_,rfl⟩;obtain ⟨K,hK⟩:∃ c,bsK IK=c:=⟨_,rfl⟩;rw [hkl] at kk k2 k3 z1 z2 MO kle;rw [hR] at k3 MO;rw [hIK,hK] at k2;rw [hIK] at HT;rw [hC] at h0 kk k2 k3 z1 cj;have k1:=kk h0;have HK:=Ac hK
       have i3:(0:Int)<(C.size:Int):=by omega
       have i4:C.size≤300:=by omega
       have i5:(1:Int)+(kl:Int)≤(C.size:Int):=by omega
       have i6:kl≤200:=kle;have ne1:=r3.ne;have ne2:=r3.row eA;have FJ:=Ac hj
       have G5:=Ac (show KA.length+1≤maxLen by unfold maxLen;omega)
       have G6:=Ac (show (KA.length+1)*16≤140737488355328 by omega)
       subst eA;clear r3 cA ko z1 z2 hK hkl hC hR hIK kk hP hPf hPf2 hT hT2 hpr kle hfew hiv hps hF hKS hksl hKA
       go_upto_region 24 with fail
       go_cut [156] from 142 to 156 (fun _ wx=>∃ Y5 u3,NdO w wx (Y++X) Y5 X4 p sb gx c (k+1+F) 1 lk cs.length cp (some ⟨bA,oA,none⟩) cs S S0 ⟨g0.lv++[n],g0.lk++[lk],KA++[IK],g0.m+1+F⟩ (.slice A5 (g0.lv.length+1) c5) u2 u3)
       case first =>
        have wk:IntKind.i64.wrap (kl:Int)=(kl:Int):=IntWalk.i64_in _ ⟨by omega,by omega⟩
        have wk1:IntKind.i64.wrap (1+(kl:Int))=1+(kl:Int):=IntWalk.i64_in _ ⟨by omega,by omega⟩
        have i7:(0:Int)≤1+(kl:Int):=by omega
        have i8:(1:Int)≤1+(kl:Int):=by omega
        have i9:(1+(kl:Int)).toNat=1+kl:=by omega
        go_region_law (refine Hg (by rfl) _ _ _ _ (by rfl) 0 9 l0 _ 1 16 Tryz.underlying44 hl0 hlz hly hlb rfl (by omega) u3 KA.length (EQ0 KA) (by rfl) ((D5.out.sh.ob.own 2 rfl).drew.alloc _) _ 1 [.string K] (by rfl) (Src.ofSlice _ Tryz.underlying44 ⟨_,0,none⟩ 1 1 [.string K] rfl (World.news_of_block (heap_alloc_new _ _)) (by simp [Value.oneCell'])) G5.out G6.out (Nat.zero_le _) ?_;intro A6 c6 w6 hown6 hg6 hat6;have HO6:=Ac hown6;have HG6:=Ac hg6;have HA6:=Ac hat6;obtain ⟨f1,f2,f3,f4⟩:=D5.out.grown (((Below.refl _ _).drew).alloc (Nat.le_refl _) _) 2 rfl hg6;have t1:=f1.cell 3;have tz:=f1.lt;have tf:=f1.frozen;clear hown6 hg6 hat6 f1 f2 f3 f4)
        all_goals
         go_wp2_with fail
         go_meet
         have ho6:=HO6.out;rw [← HK.out] at ho6;obtain ⟨Y5,hd6⟩:=D5.out.key (n:=IK) (((Below.refl _ _).drew).alloc (Nat.le_refl _) _) ho6 HG6.out HA6.out;exact ⟨Y5,_,hd6⟩
       case rest =>
        obtain ⟨Y5,u5,hd6⟩:=hcut;have D6:=Ac hd6;have D7:=Ac (hd6.below (Below.refl wc.heap.size wc).drew);clear hd6 D5 s3 s4 sz sf y0 y1 y2 yz yf G5 G6 cj
        have wk:IntKind.i64.wrap (kl:Int)=(kl:Int):=IntWalk.i64_in _ ⟨by omega,by omega⟩
        have wk1:IntKind.i64.wrap (1+(kl:Int))=1+(kl:Int):=IntWalk.i64_in _ ⟨by omega,by omega⟩
        have i7:(0:Int)≤1+(kl:Int):=by omega
        have i8:(1:Int)≤1+(kl:Int):=by omega
        have i9:(1+(kl:Int)).toNat=1+kl:=by omega
        go_wp2_with fail
        go_still_tail 11,(by kernel_rfl)
        change wpList _ _ _ _ _ wc.drew
        go_wp2_with (go_at_call 58;(with_reducible refine (MO.out _ X4 u5 D7.out.pt D7.out.sh.has D7.out.sh.FL1).mono ?_);rintro en w7 ⟨rfl,X6,hp7,ht7,hs7,hx7⟩;have D8:=Ac (D7.out.pool hp7 ht7 hs7 hx7);clear hp7 ht7 hs7 hx7)
        go_roundg (cs.length-(j+1))
        case rel =>
         refine ⟨j+1,Y5,X6,u5,by have:=FJ.out;omega,by simp, ?_⟩
         rw [HT.out.1,HT.out.2.1,← Nat.add_assoc,← Nat.add_assoc,← List.append_assoc,HT.out.2.2];exact D8.out
        case measure=>have:=FJ.out;omega
      ·obtain rfl:j=cs.length:=by omega
       have hj1:¬ (cs.length:Int)<(cs.length:Int):=by omega
       have hPl:=HE.out.1.len.2
       have hTk:its.take cs.length=its:=List.take_of_length_le (by have:=HC.out.2.2.2.1;omega)
       have hTp:P.take cs.length=P:=List.take_of_length_le (by have:=HC.out.2.2.2.1;omega)
       have FIN:=Ac (show Uz (Y++X) w p S S0 c (k+(1+PL)) sb (g0.add ⟨[n],[lk],its.map (·.k),1+PL⟩) (.int .i64 1) (.returned (.int .i64 1)) wr from by
        rw [hTk,hTp,HPL.out] at r3
        have e:g0.add ⟨[n],[lk],its.map (·.k),1+PL⟩=⟨g0.lv++[n],g0.lk++[lk],g0.ks++its.map (·.k),g0.m+1+PL⟩:=by
         show (⟨_,_,_,_⟩:Gat)=_
         rw [← Nat.add_assoc]
        rw [e,← Nat.add_assoc]
        exact r3.post _)
       clear r3 D5 hPl hTk hTp
       go_wp2_with fail
       go_ret
       exact FIN.out
theorem YO0 {p sb c:Nat} {S S0:St} (hc:c≤60000):PQ0 p sb 0 c S S0:=fun w X Y k n rt lo hi g0 g h hs hk hpg hf hg=>WC0 h hs hc hk hpg hg hf.left
theorem TP0 {p sb d c:Nat} {S S0:St} (CH:WU0 p sb d c S S0) (hd:d≤100) (hc:c≤60000):PQ0 p sb (d+1) c S S0:=by
 intro w X Y k n rt lo hi g0 g h hs hk hpg hf hg;obtain ⟨itz,gs,q1,q2,q3,q4,q5,q6,q7,q8,q9,rfl⟩:=hg;obtain ⟨its,hits⟩:∃ l,itz.drop 1=l:=⟨_,rfl⟩
 have e5:∀ i∈its,(i.k.length≤200∧szI i≤244)∧leK lo i.k∧(hi=[]∨ltK i.k hi):=fun i hi2=>by
  rw [← hits] at hi2;have:=q4 i (List.mem_of_mem_drop hi2);exact ⟨⟨this.2.1,this.1⟩,q5 i hi2⟩
 have e6:its.Pairwise (fun a b=>ltK a.k b.k):=by rw [← hits];exact q6.sublist (List.drop_sublist _ _)
 have hml0:itz.length=its.length+1:=by rw [← hits,List.length_drop];omega
 have HIT:=Ac (And.intro hits (And.intro q2 (And.intro q3 (And.intro q4 q9))));rw [hits] at q1 q7;obtain ⟨v1,v2,v3,hs⟩:=hs;have hp:=h.ok.pg n q8.2;have h5:=Oy hp;have hu:=hp.2.2.2;rw [q1] at h5 hu;have hfew:=h.ok.few
 have OP:=Ac (Ll (pages:=g0.m) (n:=n) h hs.has hs.FL1 hc (by dsimp only [Gat.add] at hk;omega) q8.2 (by dsimp only [Gat.add] at hpg;omega))
 rw [q1] at OP;rw [Ee] at hu;obtain ⟨cs,hcs⟩:∃ l,its.map Af=l:=⟨_,rfl⟩;dsimp only at h5 hu;rw [hcs] at h5 OP
 have hml:its.length=cs.length:=by rw [← hcs,List.length_map]
 have eg:g0.add ((⟨[],[],[],1⟩:Gat).add (Bh gs))=(g0.more 1).add (Bh gs):=by
  rw [← Gat.add_assoc]
  exact congrArg (fun x=>Gat.add x (Bh gs)) (by simp [Gat.add,Gat.more])
 have ek:k+((⟨[],[],[],1⟩:Gat).add (Bh gs)).m=k+1+(Bh gs).m:=by
  show k+(1+(Bh gs).m)=_
  omega
 have hk2:k+1+(Bh gs).m≤800000000:=by rw [← ek];exact hk
 have hpg2:(g0.more 1).m+(Bh gs).m≤S.q:=by
  have h9:g0.m+(1+(Bh gs).m)≤S.q:=hpg
  show g0.m+1+(Bh gs).m≤S.q
  omega
 rw [eg] at hf;rw [eg,ek]
 have HCH:=Ac (fun W X Y A cp (h:PT W X p S S0 c (k+1)) (hs:ShM W Y X sb (g0.more 1)) hss hrx=>CH W X Y (k+1) _ cp A cs lo hi (g0.more 1) itz gs h hs hk2 hpg2 hf q2 rfl q3 q4 q9 (by rw [hits];exact hcs) hss hrx h5)
 rw [show ((d+2:Nat):Int)=((d+1+1:Nat):Int) from rfl] at HCH
 obtain ⟨lk,hlk⟩:∃ l,Dz (itz.headD ⟨[],[]⟩).r=l:=⟨_,rfl⟩;rw [hlk] at OP HCH;obtain ⟨G9,hG9⟩:∃ g,(g0.more 1).add (Bh gs)=g:=⟨_,rfl⟩;obtain ⟨K9,hK9⟩:∃ g,k+1+(Bh gs).m=g:=⟨_,rfl⟩;obtain ⟨D9,hD9⟩:∃ g:Int,((d+1+1:Nat):Int)=g:=⟨_,rfl⟩;rw [hG9,hK9,hD9] at HCH;rw [hG9,hK9,hD9];have HS:=Ac hs;have HE:=Ac (And.intro True.intro (And.intro e5 (And.intro e6 q7)));have HC:=Ac (And.intro hc (And.intro True.intro (And.intro True.intro (And.intro hml (And.intro hcs hu)))))
 have i0:cs.length≤253:=h5
 have i8:((cs.length:Int) == 0)=false:=by rw [beq_eq_false_iff_ne];omega
 obtain ⟨LO,hLO⟩:∃ s,bsK lo=s:=⟨_,rfl⟩;obtain ⟨HI,hHI⟩:∃ s,bsK hi=s:=⟨_,rfl⟩;rw [hLO,hHI];rw [hLO,hHI] at HCH;have HLO:=Ac (And.intro hLO hHI);clear CH h hs hc hk hpg hk2 hpg2 hf eg ek e5 e6 q1 q2 q3 q4 q5 q6 q7 q8 q9 hp h5 hu hfew hcs hml hml0 HIT hits hLO hHI hlk hG9 hK9 hD9
 go_enter Tryz.func14,Tryz.ntmps14
 go_wp2_with fail
 refine OP.out.mono ?_
 intro en w1 hop;obtain ⟨A,cp,X1,rfl,hnd⟩:=NdO.start HS.out hop;have D0:=Ac hnd;obtain ⟨y0,y1,y2⟩:=hnd.nb.nb.cells3;have yz:=hnd.nb.nb.lt;have yf:=hnd.nb.nb.frozen;clear hop hnd OP
 go_wp2_with fail
 generalize hW:w1.alloc (.cells #[.int .i64 2,.int .i64 lk,.slice A cs.length cp] 114)=W1 at *
 generalize hgx:w1.heap.size=gx at *
 clear hW hgx y0 y1 y2 yz yf
 go_loopg [14,15,28] cs.length (fun gg v14 v15 v28 wr=>GA1 w (Y++X) Y X1 p sb gx c (k+1) 2 lk cs.length cp A cs S S0 (g0.more 1) v1 v2 v3 its gg v14 v15 v28 wr)
 case atStart=>exact ⟨0,by omega,rfl,rfl,rfl,D0.out⟩
 case round =>
  obtain ⟨j,r1,rfl,rfl,rfl,r5⟩:=hrel;clear D0;have D1:=Ac r5;have s4:=r5.sh.has.cell 4;have sz:=r5.sh.has.lt;have sf:=r5.sh.has.frozen;obtain ⟨y0,y1,y2⟩:=r5.nb.nb.cells3;have yz:=r5.nb.nb.lt;have yf:=r5.nb.nb.frozen
  by_cases hj:j<cs.length
  ·have hj1:(j:Int)<(cs.length:Int):=by omega
   have hji:j<its.length:=by have:=HC.out.2.2.2.1;omega
   obtain ⟨bA,oA,eA,lA,cA⟩:=r5.nb.ss.2 (by omega)
   have cj:=cA j (Af its[j]) (by rw [← HC.out.2.2.2.2.1,List.getElem?_map,List.getElem?_eq_getElem hji];rfl)
   have ko:=HE.out.2.1 its[j] (List.getElem_mem _);obtain ⟨h0,k1,k2,k3⟩:=cell0 its[j] ko.1.1;have z1:=Ef its[j];have z2:=ko.1.2;unfold szI at z2;have ut:=FW0 hji;have ul:=Yn its (j+1);have KA:=Ac (GF0 hji);have UT:=Ac ut;have hu:=HC.out.2.2.2.2.2
   have c1:Op.bytesLess (bsK its[j].k).toList LO.toList=false:=by rw [← HLO.out.1,Pj];exact ko.2.1
   have c2:hi≠[]→Op.bytesLess (bsK its[j].k).toList HI.toList=true:=fun hn=>by rw [← HLO.out.2,Pj];exact ko.2.2.resolve_left hn
   have c4:j≠0→Op.bytesLess (bsK its[j].k).toList (bsK (keyAt its j)).toList=false∧((bsK its[j].k).toList == (bsK (keyAt its j)).toList)=false:=fun hn=>by
    have hlt:ltK (keyAt its j) its[j].k:=by
     unfold keyAt
     rw [if_neg hn,List.getD_eq_getElem?_getD,List.getElem?_eq_getElem (show j-1<its.length by omega)]
     exact List.pairwise_iff_getElem.1 HE.out.2.2.1 (j-1) j (by omega) hji (by omega)
    rw [Pj,PW0]
    refine ⟨He hlt, ?_⟩
    rw [beq_eq_false_iff_ne]
    exact fun e=>Hq _ (e ▸ hlt)
   have e0:=Vq h0
   have kk:∀ h:0<(Af its[j]).size,((Af its[j])[0]'h).toNat=its[j].k.length:=fun _=>k1
   clear k1
   have i2:Ai (its.take j)≤1012:=by omega
   obtain ⟨U,hU⟩:∃ u,Ai (its.take j)=u:=⟨_,rfl⟩;rw [hU] at i2 UT ut;rw [hU];obtain ⟨C,hC⟩:∃ c,Af its[j]=c:=⟨_,rfl⟩;obtain ⟨K,hK⟩:∃ c,bsK its[j].k=c:=⟨_,rfl⟩;obtain ⟨L,hL⟩:∃ c,bsK (keyAt its j)=c:=⟨_,rfl⟩;obtain ⟨kl,hkl⟩:∃ c,its[j].k.length=c:=⟨_,rfl⟩;have HK:=Ac hK;rw [hK] at c1 c2 c4 k2;rw [hL] at c4 ⊢;rw [hkl] at kk k2 z1 z2;rw [hC] at h0 kk k2 z1 cj e0 UT;have k1:=kk h0;clear kk
   have i3:(0:Int)<(C.size:Int):=by omega
   have i4:C.size≤300:=by omega
   have e1:decide ((C.size:Int)<(1:Int)+(C[0].toNat:Int))=false:=by rw [k1];simp;omega
   have i5:(1:Int)+(C[0].toNat:Int)≤(C.size:Int):=by rw [k1];omega
   have b0:=Ci C[0];rw [← k1] at k2;have ne1:=r5.ne;have ne2:=r5.row eA;subst eA;clear r5 cA ko z1 z2 ut ul hu hK hL hkl hC hU k1 k3;have FU:Hid (j<cs.length):=Ac hj
   by_cases hj0:j=0
   ·have jz:((j:Int) == 0)=true:=by rw [hj0];rfl
    clear c4 hj0
    by_cases hh:hi=[]
    ·have c3:HI.toList.isEmpty=true:=by rw [← HLO.out.2,hh,Lib.toList_data,Dn];rfl
     clear c2 hh
     go_wp2_with fail
     go_roundg (cs.length-(j+1))
     case rel=>exact ⟨j+1,by omega,by simp,congrArg (Value.int .i64) (by rw [UT.out];omega),by rw [KA.out,HK.out],D1.out.ok⟩
     case measure=>omega
    ·have c3:HI.toList.isEmpty=false:=by
      rw [← HLO.out.2,Lib.toList_data,Dn]
      cases hi with
      | nil=>exact absurd rfl hh
      | cons a l=>rfl
     have c5:=c2 hh;clear c2 hh
     go_wp2_with fail
     go_roundg (cs.length-(j+1))
     case rel=>exact ⟨j+1,by omega,by simp,congrArg (Value.int .i64) (by rw [UT.out];omega),by rw [KA.out,HK.out],D1.out.ok⟩
     case measure=>omega
   ·have jz:((j:Int) == 0)=false:=by rw [beq_eq_false_iff_ne];omega
    obtain ⟨c6,c7⟩:=c4 hj0;clear c4 hj0
    by_cases hh:hi=[]
    ·have c3:HI.toList.isEmpty=true:=by rw [← HLO.out.2,hh,Lib.toList_data,Dn];rfl
     clear c2 hh
     go_wp2_with fail
     go_roundg (cs.length-(j+1))
     case rel=>exact ⟨j+1,by omega,by simp,congrArg (Value.int .i64) (by rw [UT.out];omega),by rw [KA.out,HK.out],D1.out.ok⟩
     case measure=>omega
    ·have c3:HI.toList.isEmpty=false:=by
      rw [← HLO.out.2,Lib.toList_data,Dn]
      cases hi with
      | nil=>exact absurd rfl hh
      | cons a l=>rfl
     have c5:=c2 hh;clear c2 hh
     go_wp2_with fail
     go_roundg (cs.length-(j+1))
     case rel=>exact ⟨j+1,by omega,by simp,congrArg (Value.int .i64) (by rw [UT.out];omega),by rw [KA.out,HK.out],D1.out.ok⟩
     case measure=>omega
  ·obtain rfl:j=cs.length:=by omega
   have hj1:¬ (cs.length:Int)<(cs.length:Int):=by omega
   have hTk:its.take cs.length=its:=List.take_of_length_le (by have:=HC.out.2.2.2.1;omega)
   have hu:=HC.out.2.2.2.2.2;have hus:=HE.out.2.2.2;rw [hTk];obtain ⟨U,hU⟩:∃ u,Ai its=u:=⟨_,rfl⟩;rw [hU] at hu hus;rw [hU];have ne1:=r5.ne;clear r5 hTk hU
   go_upto_region 15 with fail
   go_cut [103] from 90 to 103 (fun _ wx=>wx=wr.setCell ⟨sb,4,none⟩ (.bool true))
   case first =>
    cases rt with
    | true =>
      clear hus
      go_wp2_with fail
      go_meet
      rfl
    | false =>
      have i7:(180:Int)≤(U:Int):=by have:=hus.resolve_left (by simp);omega
      clear hus
      go_wp2_with fail
      go_meet
      rfl
   case rest =>
    have hd2:=D1.out.ok;rw [← hcut] at hd2;have D2:=Ac hd2;clear hcut D1 s4 sz sf y0 y1 y2 yz yf hus hd2;have s4:=D2.out.sh.has.cell 4;have sz:=D2.out.sh.has.lt;have sf:=D2.out.sh.has.frozen;obtain ⟨y0,y1,y2⟩:=D2.out.nb.nb.cells3;have yz:=D2.out.nb.nb.lt;have yf:=D2.out.nb.nb.frozen;have RX:=Ac (HCH.out wc X1 Y A cp D2.out.pt ⟨v1,v2,v3,D2.out.sh⟩ D2.out.nb.ss D2.out.nb.rx)
    go_wp2_with (go_at_call 59;(with_reducible refine RX.out.mono ?_);rintro en w3 ⟨rfl,Y3,X3,hp3,hs3,ht3⟩;have FIN:=Ac (And.intro hp3 (And.intro hs3 (D2.out.nb.tu.trans ht3)));clear hp3 hs3 ht3)
    go_ret
    exact ⟨rfl,Y3,X3,FIN.out.1,FIN.out.2.1,FIN.out.2.2⟩
def FK1 (w:World) (Z:List (Option Nat)) (p sb gx c k lk m cp d:Nat) (A:Option Addr) (cs:List ByteArray) (S S0:St) (g0:Gat) (gs:List Gat) (gg:Nat) (v11 v12:Value) (wr:World):Prop :=
 ∃ (i:Nat) (Y X:List (Option Nat)) (v1 v2 v3:Value) (dp:Int),i+gg=m+1∧v12 = .int .i64 i∧v11 = .int .i64 dp∧(0<i→dp=((d+1:Nat):Int))∧NdO w wr Z Y X p sb gx c (k+(Bh (gs.take i)).m) 2 lk m cp A cs S S0 (g0.add (Bh (gs.take i))) v1 v2 v3
theorem NdO.box {w:World} {X Y:List (Option Nat)} {p sb c k kd lk m cp:Nat} {A:Option Addr} {cs:List ByteArray} {S S0:St} {g:Gat} {v1 v2 v3:Value} (h:PT w X p S S0 c k) (hs:ShO w Y X sb g v1 v2 v3) (hss:SS w A m cs) (hr:∀ a,A=some a→some a.block∉Y++X∧a.block<w.heap.size) :
 NdO w (w.alloc (.cells #[.int .i64 kd,.int .i64 lk,.slice A m cp] 114)) (Y++X) Y X p sb w.heap.size c k kd lk m cp A cs S S0 g v1 v2 v3:=by
 have hb3:=Ag w (.cells #[.int .i64 kd,.int .i64 lk,.slice A m cp] 114)
 refine ⟨h.below hb3,hs.below hb3,Turn.below _ hb3,Has.new _ _ _,fun hm=>?_,hss.keep hb3,fun a e=>⟨(hr a e).1,Nat.lt_of_lt_of_le (hr a e).2 hb3.size⟩⟩
 rcases List.mem_append.1 hm with hm | hm
 ·have:=hs.lt hm;omega
 ·have:=h.lt _ hm;omega
theorem NdO.next {w wr w2:World} {Z Y X Y2 X2:List (Option Nat)} {p sb gx c k k2 kd lk m cp:Nat} {A:Option Addr} {cs:List ByteArray} {S S0:St} {g g2:Gat} {v1 v2 v3:Value} (h:NdO w wr Z Y X p sb gx c k kd lk m cp A cs S S0 g v1 v2 v3) (hp:PT w2 X2 p S S0 c k2) (hs:ShM w2 Y2 X2 sb g2) (ht:Turn (Y++X) (Y2++X2) wr w2) :
 ∃ u1 u2 u3,NdO w w2 Z Y2 X2 p sb gx c k2 kd lk m cp A cs S S0 g2 u1 u2 u3:=by
 obtain ⟨u1,u2,u3,hs⟩:=hs;exact ⟨u1,u2,u3,hp,hs,h.nb.turn ht⟩
theorem OE0 {gs:List Gat} {i:Nat} {g:Gat} (h:gs[i]? = some g):Bh (gs.take (i+1))=(Bh (gs.take i)).add g:=by
 rw [List.take_add_one,h,Yw]
 show _=_
 rw [show Bh (some g).toList=g from Gat.add_nil g]
theorem ET0 (gs:List Gat) (i:Nat):(Bh (gs.take i)).m≤(Bh gs).m∧(Bh (gs.take i)).lv.length≤(Bh gs).lv.length∧(Bh (gs.take i)).lk.length≤(Bh gs).lk.length∧(Bh (gs.take i)).ks.length≤(Bh gs).ks.length:=by
 have:=Yw (gs.take i) (gs.drop i);rw [List.take_append_drop] at this;rw [this];simp [Gat.add]
theorem YZ0 {r:Ky} (h:r.length=4):∀ (h0:0<(bsK r).size) (h1:1<(bsK r).size) (h2:2<(bsK r).size) (h3:3<(bsK r).size),((bsK r)[0]'h0).toNat*16777216+((bsK r)[1]'h1).toNat*65536+((bsK r)[2]'h2).toNat*256+((bsK r)[3]'h3).toNat=Dz r:=by
 match r,h with
 | [a,b,c,d],_ =>
   intro _ _ _ _
   show a.toNat*16777216+b.toNat*65536+c.toNat*256+d.toNat=_
   unfold Dz;simp only [List.getD_cons_zero,List.getD_cons_succ];omega
theorem NP0 {p sb d c:Nat} {S S0:St} (hc:c≤60000) (i2:d≤100) (IH:PQ0 p sb d c S S0):WU0 p sb d c S S0:=by
 intro w X Y k lk cp A cs lo hi g0 its gs h hs hk hpg hf h2 hlk hlo hsz hkr hcs hss hrx hcl;obtain ⟨v1,v2,v3,hs⟩:=hs;have D0:=Ac (NdO.box (kd:=2) (lk:=lk) (cp:=cp) h hs hss hrx)
 have hml:its.length=cs.length+1:=by rw [← hcs,List.length_map,List.length_drop];omega
 have hgl:=hkr.len;rw [List.length_map] at hgl;have HE:=Ac (And.intro hlk (And.intro hlo (And.intro hsz (And.intro hkr hcs))));have HC:=Ac (And.intro hk (And.intro hpg (And.intro hgl hf)));have HIH:=Ac IH;obtain ⟨LO,hLO⟩:∃ s,bsK lo=s:=⟨_,rfl⟩;obtain ⟨HI,hHI⟩:∃ s,bsK hi=s:=⟨_,rfl⟩;obtain ⟨M,hM⟩:∃ m,(Bh gs).m=m:=⟨_,rfl⟩;rw [hLO,hHI,hM];have HM:=Ac hM;have HLO:=Ac (And.intro hLO hHI)
 have i0:1≤cs.length:=by omega
 have i1:cs.length≤253:=hcl;clear IH h hs hk hpg hf h2 hlk hlo hsz hkr hcs hss hrx hcl hgl hLO hHI hM
 go_enter Tryz.func59,Tryz.ntmps59
 go_wp2_with fail
 generalize hW:w.alloc (.cells #[.int .i64 2,.int .i64 lk,.slice A cs.length cp] 114)=W0 at *
 generalize hgx:w.heap.size=gx at *
 clear hW hgx
 go_loopg [11,12] (cs.length+1) (fun gg v11 v12 wr=>FK1 w (Y++X) p sb gx c k lk cs.length cp d A cs S S0 g0 gs gg v11 v12 wr)
 case atStart=>exact ⟨0,Y,X,v1,v2,v3,0,by omega,rfl,rfl,fun h=>absurd h (by omega),by
  have e:g0.add (Bh (gs.take 0))=g0:=Gat.add_nil g0
  rw [e];exact D0.out⟩
 case round =>
  obtain ⟨i,Y1,X1,u1,u2,u3,dp,r1,rfl,rfl,r3,r4⟩:=hrel;clear D0;have D1:=Ac r4;have s4:=r4.sh.has.cell 4;have sz:=r4.sh.has.lt;have sf:=r4.sh.has.frozen;obtain ⟨y0,y1,y2⟩:=r4.nb.nb.cells3;have yz:=r4.nb.nb.lt;have yf:=r4.nb.nb.frozen;have ne1:=r4.ne
  by_cases hic:i<cs.length+1
  ·obtain ⟨bA,oA,eA,lA,cA⟩:=r4.nb.ss.2 (by omega)
   have ne2:=r4.row eA
   obtain ⟨g,hg1,hg2⟩:=HE.out.2.2.2.1.at (j:=i) (by rw [List.length_map];omega)
   rw [List.getElem_map] at hg2;have hgt:=OE0 hg1;have hle:=ET0 gs (i+1);rw [hgt] at hle;obtain ⟨T,hT⟩:∃ t,Bh (gs.take i)=t:=⟨_,rfl⟩;rw [hT] at hgt hle D1
   have hlm:T.m+g.m≤M:=by rw [← HM.out];exact hle.1
   have IHc:=Ac (fun W X Y (h:PT W X p S S0 c (k+T.m)) (hs:ShM W Y X sb (g0.add T))=>HIH.out W X Y (k+T.m) _ false _ _ (g0.add T) g h hs (by have:=HC.out.1;rw [HM.out] at this;omega) (by have:=HC.out.2.1;rw [HM.out] at this;show g0.m+T.m+g.m≤S.q;omega) (by
    rw [Gat.add_assoc]
    refine HC.out.2.2.2.mono ?_ ?_ ?_
    ·show (g0.lv++(T.lv++g.lv)).length≤(g0.lv++(Bh gs).lv).length
     have h9:(T.lv++g.lv).length≤(Bh gs).lv.length:=hle.2.1;simp only [List.length_append] at h9 ⊢;omega
    ·show (g0.lk++(T.lk++g.lk)).length≤(g0.lk++(Bh gs).lk).length
     have h9:(T.lk++g.lk).length≤(Bh gs).lk.length:=hle.2.2.1;simp only [List.length_append] at h9 ⊢;omega
    ·show (g0.ks++(T.ks++g.ks)).length≤(g0.ks++(Bh gs).ks).length
     have h9:(T.ks++g.ks).length≤(Bh gs).ks.length:=hle.2.2.2
     simp only [List.length_append] at h9 ⊢;omega) hg2)
   have HGT:=Ac hgt;have FI:=Ac hic;clear hg1 hg2 hgt hle hT r4 hlm
   cases i with
   | zero =>
     have hx0:0<its.length:=by omega
     have hx1:1<its.length:=by omega
     have ez1:its[0].k=lo:=by
      have:=HE.out.2.1
      cases its with
      | nil=>simp at hml
      | cons a l=>exact this
     have ez2:Dz its[0].r=lk:=by
      have:=HE.out.1
      cases its with
      | nil=>simp at hml
      | cons a l=>exact this
     have ez3:hiZ ((its.map itZ).drop (0+1)) hi=its[1].k:=by
      rw [List.drop_eq_getElem_cons (by rw [List.length_map];omega),List.getElem_map];rfl
     have ez4:(itZ its[0]).1=lk:=ez2;have ez5:(itZ its[0]).2=lo:=ez1;rw [ez3,ez4,ez5,HLO.out.1] at IHc;clear ez1 ez2 ez3 ez4 ez5
     have hxb:1<its.length:=by omega
     have cjb:=cA (0) (Af its[1]) (by rw [← HE.out.2.2.2.2,List.getElem?_map,List.getElem?_drop,show 1+(0)=1 by omega,List.getElem?_eq_getElem hxb];rfl)
     have szb:=HE.out.2.2.1 its[1] (List.getElem_mem _);obtain ⟨h0b,k1b,k2b,k3b⟩:=cell0 its[1] szb.2.1;have z1b:=Ef its[1];have e0b:=Vq h0b
     have kkb:∀ h:0<(Af its[1]).size,((Af its[1])[0]'h).toNat=its[1].k.length:=fun _=>k1b
     clear k1b;obtain ⟨Cb,hCb⟩:∃ c,Af its[1]=c:=⟨_,rfl⟩;rw [hCb] at h0b kkb k2b k3b z1b cjb e0b;have k1b:=kkb h0b;rw [← k1b] at k2b k3b z1b;have b0b:=Ci Cb[0]
     have i3b:(0:Int)<(Cb.size:Int):=by omega
     have i4b:Cb.size≤300:=by have:=szb.1;unfold szI at this;rw [k1b] at z1b;omega
     have i5b:(1:Int)+(Cb[0].toNat:Int)≤(Cb.size:Int):=by omega
     obtain ⟨Kb,hKb⟩:∃ c,bsK its[1].k=c:=⟨_,rfl⟩;rw [hKb] at k2b IHc;clear kkb k1b z1b hCb hKb szb;subst eA;clear cA
     have j1:(0:Int)<(cs.length:Int):=by omega
     have j2:(0:Int)≤(cs.length:Int):=by omega
     rw [show (((0:Nat)):Int)=0 from rfl]
     simp only [Nat.add_zero] at cjb;have DC:=Ac D1.out;have WPT:=D1.out.pt;have WSH:ShM wr Y1 X1 sb (g0.add T):=⟨u1,u2,u3,D1.out.sh⟩;have R3:=Ac r3;clear r3
     go_wp2_with (go_at_call 14;(with_reducible refine (IHc.out _ X1 Y1 WPT WSH).mono ?_);rintro en w7 ⟨rfl,Y7,X7,hp7,hs7,ht7⟩;obtain ⟨u7,u8,u9,hd7⟩:=DC.out.next hp7 hs7 ht7;have D7:=Ac hd7;have D8:=Ac hd7.ok;have s4:=hd7.sh.has.cell 4;have sz:=hd7.sh.has.lt;have sf:=hd7.sh.has.frozen;clear hp7 hs7 ht7 hd7)
     go_roundg (cs.length+1-(0+1))
     case rel =>
      refine ⟨0+1,Y7,X7,u7,u8,u9,((d+1:Nat):Int),by have:=FI.out;omega,by simp,rfl,fun _=>rfl, ?_⟩
      rw [HGT.out,← Gat.add_assoc];have e:k+(T.add g).m=k+T.m+g.m:=(Nat.add_assoc k T.m g.m).symm;rw [e];exact D8.out
     case measure=>have:=FI.out;omega
   | succ i =>
     have hx0:i+1<its.length:=by omega
     have ez4:(itZ its[i+1]).1=Dz its[i+1].r:=rfl;have ez5:(itZ its[i+1]).2=its[i+1].k:=rfl;rw [ez4,ez5] at IHc;clear ez4 ez5;have hr4:=(HE.out.2.2.1 its[i+1] (List.getElem_mem _)).2.2;have RN:=YZ0 hr4
     have zR:(bsK its[i+1].r).size=4:=by rw [Bo];exact hr4
     have hxa:i+1<its.length:=by omega
     have cja:=cA (i) (Af its[i+1]) (by rw [← HE.out.2.2.2.2,List.getElem?_map,List.getElem?_drop,show 1+(i)=i+1 by omega,List.getElem?_eq_getElem hxa];rfl)
     have sza:=HE.out.2.2.1 its[i+1] (List.getElem_mem _);obtain ⟨h0a,k1a,k2a,k3a⟩:=cell0 its[i+1] sza.2.1;have z1a:=Ef its[i+1];have e0a:=Vq h0a
     have kka:∀ h:0<(Af its[i+1]).size,((Af its[i+1])[0]'h).toNat=its[i+1].k.length:=fun _=>k1a
     clear k1a;obtain ⟨Ca,hCa⟩:∃ c,Af its[i+1]=c:=⟨_,rfl⟩;rw [hCa] at h0a kka k2a k3a z1a cja e0a;have k1a:=kka h0a;rw [← k1a] at k2a k3a z1a;have b0a:=Ci Ca[0]
     have i3a:(0:Int)<(Ca.size:Int):=by omega
     have i4a:Ca.size≤300:=by have:=sza.1;unfold szI at this;rw [k1a] at z1a;omega
     have i5a:(1:Int)+(Ca[0].toNat:Int)≤(Ca.size:Int):=by omega
     obtain ⟨Ka,hKa⟩:∃ c,bsK its[i+1].k=c:=⟨_,rfl⟩;rw [hKa] at k2a IHc;clear kka k1a z1a hCa hKa sza;obtain ⟨R,hR⟩:∃ c,bsK its[i+1].r=c:=⟨_,rfl⟩;obtain ⟨q,hq⟩:∃ c,Dz its[i+1].r=c:=⟨_,rfl⟩;rw [hR,hq] at RN;rw [hR] at zR k3a;rw [hq] at IHc;clear hR hq hr4
     have l0:0<R.size:=by omega
     have l1:1<R.size:=by omega
     have l2:2<R.size:=by omega
     have l3:3<R.size:=by omega
     have RN2:=Ac (RN l0 l1 l2 l3);have g0':=Ci R[0];have g1':=Ci R[1];have g2':=Ci R[2];have g3':=Ci R[3]
     have j0:(0:Int)<(R.size:Int):=by omega
     have j1:(1:Int)<(R.size:Int):=by omega
     have j2:(2:Int)<(R.size:Int):=by omega
     have j3:(3:Int)<(R.size:Int):=by omega
     have z4:((R.size:Int) != 4)=false:=by rw [bne_eq_false_iff_eq];omega
     have j4:(i:Int)+1≤(cs.length:Int):=by omega
     have j5:(i:Int)<(cs.length:Int):=by omega
     have FA:=Ac lA;have FC:=Ac cA;subst eA;clear cA RN zR;have R3:=Ac r3;clear r3
     rw [show ((i+1:Nat):Int)=(i:Int)+1 from rfl]
     go_upto_region 13 with fail
     rw [k2a,k3a]
     go_cut [13] from 63 to 80 (fun v13 wx=>v13 = .int .i64 (q:Nat)∧Below wr.heap.size wr wx)
     case first =>
      refine Bz (wr) (by kernel_rfl) (by kernel_rfl) (Cls.start _) ?_
      repeat
       first
        | go_big_quiet_skip
        | (go_big_quiet_want;(first | go_big_quiet_op | go_simp);first | go_big_quiet_on | (apply Exists.intro;refine ⟨fun w' hw'=>?_, ?_⟩;(·(first | (with_reducible exact rfl) | (fail) | (obtain ⟨hc,hf⟩:=hw'.facts;go_simp;first | done | (with_reducible exact rfl) | (with_reducible exact ⟨rfl,rfl⟩))));go_big_quiet_on))
      refine wpQuiet_nil ?_
      intro wq hq
      go_wp2_with fail
      go_meet
      exact ⟨congrArg (Value.int .i64) ((or4 _ _ _ _ g0' g1' g2' g3').trans (congrArg (fun n:Nat=>(n:Int)) RN2.out)),hq.bel⟩
     case rest =>
      obtain ⟨rfl,hb⟩:=hcut;have DC:=Ac (D1.out.below hb);have WPT:=DC.out.pt;have WSH:ShM wc Y1 X1 sb (g0.add T):=⟨u1,u2,u3,DC.out.sh⟩;clear s4 sz sf y0 y1 y2 yz yf cja j0 j1 j2 j3 g0' g1' g2' g3';have s4:=DC.out.sh.has.cell 4;have sz:=DC.out.sh.has.lt;have sf:=DC.out.sh.has.frozen;obtain ⟨y0,y1,y2⟩:=DC.out.nb.nb.cells3;have yz:=DC.out.nb.nb.lt;have yf:=DC.out.nb.nb.frozen;have HB:=Ac hb;clear hb
      have OKB:=Ac (show ((i:Int)+1 == 0 || (d:Int)+1 == dp)=true from by
       rw [R3.out (by omega),show ((d+1:Nat):Int)=(d:Int)+1 from rfl];simp)
      by_cases hlast:i+1<cs.length
      ·have hx2:i+1+1<its.length:=by omega
       have ez3:hiZ ((its.map itZ).drop (i+1+1)) hi=its[i+1+1].k:=by
        rw [List.drop_eq_getElem_cons (by rw [List.length_map];omega),List.getElem_map];rfl
       rw [ez3] at IHc;clear ez3;have cA:=FC.out
       have hxb:i+1+1<its.length:=by omega
       have cjb:=cA (i+1) (Af its[i+1+1]) (by rw [← HE.out.2.2.2.2,List.getElem?_map,List.getElem?_drop,show 1+(i+1)=i+1+1 by omega,List.getElem?_eq_getElem hxb];rfl)
       have szb:=HE.out.2.2.1 its[i+1+1] (List.getElem_mem _);obtain ⟨h0b,k1b,k2b,k3b⟩:=cell0 its[i+1+1] szb.2.1;have z1b:=Ef its[i+1+1];have e0b:=Vq h0b
       have kkb:∀ h:0<(Af its[i+1+1]).size,((Af its[i+1+1])[0]'h).toNat=its[i+1+1].k.length:=fun _=>k1b
       clear k1b;obtain ⟨Cb,hCb⟩:∃ c,Af its[i+1+1]=c:=⟨_,rfl⟩;rw [hCb] at h0b kkb k2b k3b z1b cjb e0b;have k1b:=kkb h0b;rw [← k1b] at k2b k3b z1b;have b0b:=Ci Cb[0]
       have i3b:(0:Int)<(Cb.size:Int):=by omega
       have i4b:Cb.size≤300:=by have:=szb.1;unfold szI at this;rw [k1b] at z1b;omega
       have i5b:(1:Int)+(Cb[0].toNat:Int)≤(Cb.size:Int):=by omega
       obtain ⟨Kb,hKb⟩:∃ c,bsK its[i+1+1].k=c:=⟨_,rfl⟩;rw [hKb] at k2b IHc;clear kkb k1b z1b hCb hKb szb;have cjb2:=(HB.out.cell (p:=⟨bA,oA+(i+1),none⟩) FA.out).trans cjb;clear cA cjb
       have j6:(i:Int)+1<(cs.length:Int):=by omega
       go_wp2_with (go_at_call 14;(with_reducible refine (IHc.out _ X1 Y1 WPT WSH).mono ?_);rintro en w7 ⟨rfl,Y7,X7,hp7,hs7,ht7⟩;obtain ⟨u7,u8,u9,hd7⟩:=DC.out.next hp7 hs7 ht7;have D7:=Ac hd7;have D8:=Ac hd7.ok;have s4:=hd7.sh.has.cell 4;have sz:=hd7.sh.has.lt;have sf:=hd7.sh.has.frozen;clear hp7 hs7 ht7 hd7)
       go_roundg (cs.length+1-(i+1+1))
       case rel =>
        refine ⟨i+1+1,Y7,X7,u7,u8,u9,((d+1:Nat):Int),by have:=FI.out;omega,by simp,rfl,fun _=>rfl, ?_⟩
        rw [HGT.out,← Gat.add_assoc];have e:k+(T.add g).m=k+T.m+g.m:=(Nat.add_assoc k T.m g.m).symm;rw [e];rw [OKB.out];exact D8.out
       case measure=>have:=FI.out;omega
      ·have hx2:i+1+1=its.length:=by omega
       have ez3:hiZ ((its.map itZ).drop (i+1+1)) hi=hi:=by
        rw [List.drop_of_length_le (by rw [List.length_map];omega)];rfl
       rw [ez3,HLO.out.2] at IHc;clear ez3
       have j6:¬ (i:Int)+1<(cs.length:Int):=by omega
       go_wp2_with (go_at_call 14;(with_reducible refine (IHc.out _ X1 Y1 WPT WSH).mono ?_);rintro en w7 ⟨rfl,Y7,X7,hp7,hs7,ht7⟩;obtain ⟨u7,u8,u9,hd7⟩:=DC.out.next hp7 hs7 ht7;have D7:=Ac hd7;have D8:=Ac hd7.ok;have s4:=hd7.sh.has.cell 4;have sz:=hd7.sh.has.lt;have sf:=hd7.sh.has.frozen;clear hp7 hs7 ht7 hd7)
       go_roundg (cs.length+1-(i+1+1))
       case rel =>
        refine ⟨i+1+1,Y7,X7,u7,u8,u9,((d+1:Nat):Int),by have:=FI.out;omega,by simp,rfl,fun _=>rfl, ?_⟩
        rw [HGT.out,← Gat.add_assoc];have e:k+(T.add g).m=k+T.m+g.m:=(Nat.add_assoc k T.m g.m).symm;rw [e];rw [OKB.out];exact D8.out
       case measure=>have:=FI.out;omega
  ·obtain rfl:i=cs.length+1:=by omega
   have hTk:gs.take (cs.length+1)=gs:=List.take_of_length_le (by have:=HC.out.2.2.1;omega)
   have hdp:=r3 (by omega)
   subst hdp
   have FIN:=Ac (show Uz (Y++X) w p S S0 c (k+M) sb (g0.add (Bh gs)) (.int .i64 ((d+2:Nat):Int)) (.returned (.int .i64 ((d+2:Nat):Int))) wr from by
    rw [hTk,HM.out] at r4
    exact r4.post _)
   have j6:¬ ((cs.length:Int)+1≤(cs.length:Int)):=by omega
   rw [show ((cs.length+1:Nat):Int)=(cs.length:Int)+1 from rfl]
   rw [show ((d+1:Nat):Int)=(d:Int)+1 from rfl]
   clear r4 D1 hTk r3
   go_wp2_with fail
   go_ret
   have e:=FIN.out
   rw [show ((d+2:Nat):Int)=(d:Int)+1+1 from rfl] at e
   exact e
end Go.Proofs.YtjihboddejaelaaGreat
namespace Go.Proofs.YtjihboddejaelaaGreat
open Go.RowKit
theorem EK0 {k:Ky}:∀ {E:List En},FA1 E→∃ E1 E2,(∀ e∈E1,ltK e.1 k)∧(∀ e∈E2,ltK k e.1)∧(E=E1++E2∨∃ u,E=E1++(k,u) :: E2)
 | [],_=>⟨[],[],fun _ h=>(by cases h),fun _ h=>(by cases h),.inl rfl⟩
 | e :: E,h=>by
   obtain ⟨h1,h2⟩:=List.pairwise_cons.1 h
   rcases GV0 e.1 k with hk | hk | hk
   ·obtain ⟨E1,E2,a,b,c⟩:=EK0 h2
    refine ⟨e :: E1,E2,fun x hx=>(List.mem_cons.1 hx).elim (fun e2=>e2 ▸ hk) (a x),b, ?_⟩
    rcases c with rfl | ⟨u,rfl⟩
    ·exact .inl rfl
    ·exact .inr ⟨u,rfl⟩
   ·exact ⟨[],E,fun _ h=>(by cases h),fun x hx=>hk ▸ h1 x hx,.inr ⟨e.2,by rw [← hk];rfl⟩⟩
   ·exact ⟨[],e :: E,fun _ h=>(by cases h),fun x hx=>(List.mem_cons.1 hx).elim (fun e2=>e2 ▸ hk) fun hx=>Jo hk (h1 x hx),.inl rfl⟩
theorem Rh {k:Ky} {E:List En} (h:∀ e∈E,ltK e.1 k):k∉E.map (·.1):=fun hm=>by
 obtain ⟨e,he,e2⟩:=List.mem_map.1 hm;exact Hq k (e2 ▸ h e he)
theorem Rf {k:Ky} {E:List En} (h:∀ e∈E,ltK k e.1):k∉E.map (·.1):=fun hm=>by
 obtain ⟨e,he,e2⟩:=List.mem_map.1 hm;exact Hq k (e2 ▸ h e he)
theorem ZY0 {k v:Ky} {E:List En} (h:FA1 E):(∀ y,y∈(RK0 k v E).map (·.1)↔y=k∨y∈E.map (·.1))∧(k∈E.map (·.1)→(RK0 k v E).length=E.length)∧(k∉E.map (·.1)→(RK0 k v E).length=E.length+1):=by
 obtain ⟨E1,E2,a,b,rfl | ⟨u,rfl⟩⟩:=EK0 (k:=k) h
 ·have hn:k∉(E1++E2).map (·.1):=fun hm=>by
   rw [List.map_append] at hm;exact (List.mem_append.1 hm).elim (Rh a) (Rf b)
  rw [(Zu (v:=v) a b).1]
  refine ⟨fun y=>?_,fun hm=>absurd hm hn,fun _=>by simp;omega⟩
  simp only [List.map_append,List.map_cons,List.mem_append,List.mem_cons]
  constructor
  ·rintro (h | h | h)
   ·exact .inr (.inl h)
   ·exact .inl h
   ·exact .inr (.inr h)
  ·rintro (h | h | h)
   ·exact .inr (.inl h)
   ·exact .inl h
   ·exact .inr (.inr h)
 ·rw [(GZ0 (v:=v) (u:=u) a b).1]
  refine ⟨fun y=>?_,fun _=>by simp,fun hn=>absurd (by simp) hn⟩
  simp only [List.map_append,List.map_cons,List.mem_append,List.mem_cons]
  constructor
  ·intro h;exact .inr h
  ·rintro (h | h)
   ·exact .inr (.inl h)
   ·exact h
theorem AA1 {k:Ky} {E:List En} (h:FA1 E):(∀ y,y∈(RS0 k E).map (·.1)↔y≠k∧y∈E.map (·.1))∧(k∈E.map (·.1)→(RS0 k E).length=E.length-1)∧(k∉E.map (·.1)→(RS0 k E).length=E.length):=by
 obtain ⟨E1,E2,a,b,rfl | ⟨u,rfl⟩⟩:=EK0 (k:=k) h
 ·have hn:k∉(E1++E2).map (·.1):=fun hm=>by
   rw [List.map_append] at hm;exact (List.mem_append.1 hm).elim (Rh a) (Rf b)
  rw [(Zu (v:=[]) a b).2.2]
  exact ⟨fun y=>⟨fun hy=>⟨fun e=>hn (e ▸ hy),hy⟩,fun hy=>hy.2⟩,fun hm=>absurd hm hn,fun _=>rfl⟩
 ·have hn:k∉(E1++E2).map (·.1):=fun hm=>by
   rw [List.map_append] at hm;exact (List.mem_append.1 hm).elim (Rh a) (Rf b)
  rw [(GZ0 (v:=[]) (u:=u) a b).2.2.1]
  refine ⟨fun y=>⟨fun hy=>⟨fun e=>hn (e ▸ hy), ?_⟩,fun hy=>?_⟩,fun _=>by simp,fun hn=>absurd (by simp) hn⟩
  ·rw [List.map_append] at hy
   rw [List.map_append,List.map_cons]
   rcases List.mem_append.1 hy with h | h
   ·exact List.mem_append_left _ h
   ·exact List.mem_append_right _ (List.mem_cons_of_mem _ h)
  ·obtain ⟨h1,h2⟩:=hy
   rw [List.map_append,List.map_cons] at h2;rw [List.map_append]
   rcases List.mem_append.1 h2 with h | h
   ·exact List.mem_append_left _ h
   ·rcases List.mem_cons.1 h with h | h
    ·exact absurd h h1
    ·exact List.mem_append_right _ h
theorem Qb.srt {S:St} {root:Nat} {x:Nd} {Ds:List (List Nd)} {E:List En} {P:List (List Nat)} (h:Qb S root x Ds E P):FA1 E:=by
 have:(E.map (·.1)).Pairwise ltK:=by
  rw [h.ent.keys,← DQ0,List.pairwise_map];exact EG0 (IX0 h.tre.1)
 exact List.pairwise_map.1 this
def TI (S:St) (root:Nat) (E:List En) (g:Ky→Bool) (c:Nat):Prop :=
 ∃ x Ds P,Qb S root x Ds E P∧(∀ ps∈P,ps.length≤3)∧(Ei [x] Ds++P.flatten).length+S.fr.length+1=S.q∧E.length=c∧∀ k,g k=true↔k∈E.map (·.1)
theorem Mv.count {S S':St} {a b:List Nat} (m:Mv S S' a b) (h:a.length+S.fr.length+1=S.q):b.length+S'.fr.length+1=S'.q:=by
 have h1:=m.pm.length_eq;have h2:=m.q;rw [List.length_append,List.length_append,List.length_append,List.length_range'] at h1;omega
theorem TI.put {S S':St} {root:Nat} {E:List En} {g:Ky→Bool} {c:Nat} {k v:Ky} {x0 x:Nd} {Ds0 Ds:List (List Nd)} {P0 P:List (List Nat)} (h0:Qb S root x0 Ds0 E P0) (hq:(Ei [x0] Ds0++P0.flatten).length+S.fr.length+1=S.q) (hc:E.length=c) (hg:∀ k,g k=true↔k∈E.map (·.1))
 (ht:Qb S' root x Ds (RK0 k v E) P) (hm:Mv S S' (Ei [x0] Ds0++P0.flatten) (Ei [x] Ds++P.flatten)) (h3:∀ ps∈P,ps.length≤3):TI S' root (RK0 k v E) (fun y=>if y=k then true else g y) (if g k then c else c+1):=by
 obtain ⟨a,b,d⟩:=ZY0 (k:=k) (v:=v) h0.srt
 refine ⟨x,Ds,P,ht,h3,hm.count hq, ?_,fun y=>?_⟩
 ·by_cases hk:g k=true
  ·rw [if_pos hk,b ((hg k).1 hk),hc]
  ·rw [if_neg hk,d fun hm=>hk ((hg k).2 hm),hc]
 ·rw [a]
  by_cases hy:y=k
  ·simp [hy]
  ·simp only [if_neg hy,hg y]
   exact ⟨.inr,fun h=>h.elim (fun e=>absurd e hy) id⟩
theorem TI.del {S S':St} {root:Nat} {E:List En} {g:Ky→Bool} {c:Nat} {k:Ky} {x0 x:Nd} {Ds0 Ds:List (List Nd)} {P0 P:List (List Nat)} (h0:Qb S root x0 Ds0 E P0) (hq:(Ei [x0] Ds0++P0.flatten).length+S.fr.length+1=S.q) (hc:E.length=c) (hg:∀ k,g k=true↔k∈E.map (·.1))
 (ht:Qb S' root x Ds (RS0 k E) P) (hm:Mv S S' (Ei [x0] Ds0++P0.flatten) (Ei [x] Ds++P.flatten)) (h3:∀ ps∈P,ps.length≤3):TI S' root (RS0 k E) (fun y=>if y=k then false else g y) (if g k then c-1 else c):=by
 obtain ⟨a,b,d⟩:=AA1 (k:=k) h0.srt
 refine ⟨x,Ds,P,ht,h3,hm.count hq, ?_,fun y=>?_⟩
 ·by_cases hk:g k=true
  ·rw [if_pos hk,b ((hg k).1 hk),hc]
  ·rw [if_neg hk,d fun hm=>hk ((hg k).2 hm),hc]
 ·rw [a]
  by_cases hy:y=k
  ·simp [hy]
  ·simp only [if_neg hy,hg y]
   exact ⟨fun h=>⟨hy,h⟩,fun h=>h.2⟩
theorem YW0 {L:List Nd} {j:Nat} (hj:j<L.length):(lkN L 0)[j]? = some (if h:j+1<L.length then ((L.map (·.n))[j+1]'(by simpa using h)) else 0):=by
 rw [CB1 hj]
 by_cases h:j+1<L.length
 ·rw [dif_pos h,dif_pos h,List.getElem_map]
 ·rw [dif_neg h,dif_neg h]
open Go.BigFrame
theorem VQ0 {p sb c:Nat} {S S0:St} (hc:c≤60000):∀ (d:Nat),d≤100→PQ0 p sb d c S S0
 | 0,_=>YO0 hc
 | d+1,hd=>TP0 (NP0 hc (by omega) (VQ0 hc d (by omega))) (by omega) hc
theorem LQ0:∀ (Ds:List (List Nd)) (L:List Nd),(MG0 L Ds).length≤(Ei L Ds).length
 | [],L=>by show L.length≤(L.map (·.n)).length;rw [List.length_map];exact Nat.le_refl _
 | D :: r,L=>by
   have:=LQ0 r D
   show (MG0 D r).length≤(L.map (·.n)++Ei D r).length
   rw [List.length_append];omega
theorem UE0 {S:St} {root:Nat} {x:Nd} {Ds:List (List Nd)} {E:List En} {P:List (List Nat)} (h:Qb S root x Ds E P) (hq:S.q≤65536) :
 ∃ L:List Nd,Shp S.G S.q true Ds.length root [] [] ⟨L.map (·.n),lkN L 0,E.map (·.1),(Ei [x] Ds++P.flatten).length⟩∧(E.map (·.1)).Pairwise ltK∧L.length≤(Ei [x] Ds++P.flatten).length:=by
 obtain ⟨⟨t1,t2,t3⟩,he,hn,hr⟩:=h;have hn1:=(List.nodup_append.1 hn).1
 obtain ⟨gs,a,b⟩:=VP0 (rt:=true) (q:=S.q) t1 (.inl rfl) (fun D r e p hp=>by
  subst e
  have h9:([x].map (·.n)++Ei D r).Nodup:=hn1
  exact fun e9=>(List.nodup_append.1 h9).2.2 x.n (by simp) p hp (by rw [e9,t2])) (fun p hp=>by have:=hr p (List.mem_append_left _ hp);exact ⟨this.1,this.2.1⟩) hq (fun ps hps y hy=>by have:=hr y (List.mem_append_right _ (List.mem_flatten.2 ⟨ps,hps,hy⟩));exact ⟨this.1,this.2.1⟩) he
 refine ⟨MG0 [x] Ds, ?_, ?_,by rw [List.length_append];have:=LQ0 Ds [x];omega⟩
 ·cases gs with
  | nil=>exact a.elim
  | cons g gs =>
    cases gs with
    | cons _ _=>exact a.2.elim
    | nil =>
      have e:Bh [g]=g:=Gat.add_nil g;rw [e] at b;have a1:=a.1;rw [b] at a1;rw [List.length_append];have e2:(nZ x).1=root:=t2;have e3:(nZ x).2=[]:=t3;rw [e2,e3] at a1;exact a1
 ·rw [he.keys,← DQ0,List.pairwise_map]
  exact EG0 (IX0 t1)
def WX0 (Y X:List (Option Nat)) (w:World) (p:Nat) (S S0:St) (c k sb:Nat) (g:Gat) (en:Ending) (w':World):Prop :=
 ∃ (d:Int) (Y' X':List (Option Nat)) (v1 v2 v3:Value),en = .returned (.int .i64 d)∧PT w' X' p S S0 c k∧ShO w' Y' X' sb g v1 v2 v3∧Turn (Y++X) (Y'++X') w w'
theorem TV0 {w:World} {X Y:List (Option Nat)} {p sb c k root:Nat} {S S0:St} {x:Nd} {Ds:List (List Nd)} {E:List En} {P:List (List Nat)} (h:PT w X p S S0 c k) (hs:ShM w Y X sb Gat.nil) (ht:Qb S root x Ds E P) (hc:c≤60000) (hk:k≤700000000) (hq:S.q≤60000) (hE:E.length≤1000) :
 ∃ L:List Nd,L.length≤S.q∧(E.map (·.1)).Pairwise ltK∧Calls Tryz.prog 14 #[.pointer (some ⟨sb,0,none⟩),.pointer (some ⟨p,0,none⟩),.int .i64 root,.string ByteArray.empty,.string ByteArray.empty,.bool true] w (WX0 Y X w p S S0 c (k+(Ei [x] Ds++P.flatten).length) sb ⟨L.map (·.n),lkN L 0,E.map (·.1),(Ei [x] Ds++P.flatten).length⟩):=by
 have hd:=CH0 ht.tre (fun q hq=>by have:=ht.rng q (List.mem_append_left _ hq);exact ⟨this.1,this.2.1⟩) (List.nodup_append.1 ht.nd).1 hq
 obtain ⟨L,a,b,hL⟩:=UE0 ht (by omega)
 have hm:=Rx S.q _ ht.nd (fun q hq=>(ht.rng q hq).2.1)
 refine ⟨L,by omega,b, ?_⟩
 have:=VQ0 (p:=p) (sb:=sb) (S:=S) (S0:=S0) hc Ds.length (by omega) w X Y k root true [] [] Gat.nil _ h hs (by dsimp only;omega) (by show 0+_≤_;dsimp only;omega) (by
  rw [Gat.NE0]
  show (L.map (·.n)).length+(lkN L 0).length+(E.map (·.1)).length≤30000000
  rw [List.length_map,List.length_map,OZ0];omega) a
 rw [Gat.NE0] at this
 refine this.mono ?_
 rintro en w' ⟨rfl,Y',X',q1,⟨v1,v2,v3,q2⟩,q3⟩;exact ⟨_,Y',X',v1,v2,v3,rfl,q1,q2,q3⟩
open Go.Maps
theorem LU0:Keyed Tryz.prog 9 := string_keyed Tryz.underlying9
theorem XA0 (k:ByteArray) (hk:k.size≤1000000):keyOf Tryz.prog 9 (.string k)=some (.string k.data.toList):=WideMaps.keyOf_string_mk Tryz.underlying9 (by unfold maxLen;omega)
def GM0 (D:DataW Unit) (g:Ky→Bool):Prop:=∀ x:Ky,(g x=false→Maps.has D (.string x)=false)∧(g x=true→∀ z,D.atKey (.string x) z = .lit (.int .i64 1))
theorem GM0.has {D:DataW Unit} {g:Ky→Bool} (h:GM0 D g) (x:Ky):Maps.has D (.string x)=g x:=by
 cases hg:g x with
 | false=>exact (h x).1 hg
 | true=>exact has_true_of_atKey ((h x).2 hg)
theorem GM0.put {D:DataW Unit} {g:Ky→Bool} (hm:Maps.IsMap D) (h:GM0 D g) (k:Ky):GM0 (D.put (.string k) (.lit (.int .i64 1))) (fun y=>if y=k then true else g y):=fun x=>by
 dsimp only
 by_cases hx:x=k
 ·subst hx
  rw [if_pos rfl]
  exact ⟨fun h=>(by cases h),fun _ z=>atKey_put_same (k:=.string x) hm trivial _ _⟩
 ·have hne:(Lit.string x) ≠ .string k:=fun e=>by cases e;exact hx rfl
  rw [if_neg hx]
  refine ⟨fun h1=>?_,fun h1 z=>?_⟩
  ·rw [has_put_other hne];exact (h x).1 h1
  ·rw [atKey_put_other hne];exact (h x).2 h1 z
theorem GM0.del {D:DataW Unit} {g:Ky→Bool} (h:GM0 D g) (k:Ky):GM0 (D.del (.string k)) (fun y=>if y=k then false else g y):=fun x=>by
 dsimp only
 by_cases hx:x=k
 ·subst hx
  rw [if_pos rfl]
  exact ⟨fun _=>has_del_same,fun h=>by cases h⟩
 ·have hne:(Lit.string x) ≠ .string k:=fun e=>by cases e;exact hx rfl
  rw [if_neg hx]
  refine ⟨fun h1=>?_,fun h1 z=>?_⟩
  ·rw [has_del_other hne];exact (h x).1 h1
  ·rw [atKey_del_other hne];exact (h x).2 h1 z
theorem FH0 {R:Value→Option (DataW Unit×List MemPlace)} {w:World} {b n:Nat} {D:DataW Unit} (h:w.ownsMap Tryz.prog 9 R b n D):w.ownsMap Tryz.prog 9 R b (Maps.size D) D:=by
 obtain ⟨es,cl,hb,F,hs,rfl⟩:=h
 exact ⟨es,cl,hb,F,by simp [Maps.size,length_sorted],rfl⟩
def SM (w:World) (b:Nat) (g:Ky→Bool) (c:Nat):Prop:=∃ D:DataW Unit,w.ownsMap Tryz.prog 9 (plainElem Tryz.prog 3) b c D∧GM0 D g∧Maps.size D=c
section
variable {w w':World} {b c:Nat} {g g':Ky→Bool}
theorem SM.lt (h:SM w b g c):b<w.heap.size:=by
 obtain ⟨D,h1,_⟩:=h;exact h1.lt
theorem SM.block (h:SM w b g c) (hb:w'.heap[b]? = w.heap[b]?):SM w' b g c:=by
 obtain ⟨D,⟨es,cl,h1,h2⟩,h3⟩:=h;exact ⟨D,⟨es,cl,hb.trans h1,h2⟩,h3⟩
theorem SM.below (h:SM w b g c) (hb:Below w.heap.size w w'):SM w' b g c:=h.block (hb.block b h.lt)
theorem SM.turn {x y:List (Option Nat)} (h:SM w b g c) (ht:Turn x y w w') (hg:some b∉x):SM w' b g c:=h.block (ht.block b h.lt hg)
theorem SM.made (w:World):SM (w.alloc (.map #[] 0)) w.heap.size (fun _=>false) 0:=⟨_,World.ownsMap_made _ _ _ _,fun x=>⟨fun _=>rfl,fun h=>by cases h⟩,rfl⟩
theorem SM.put (h:SM w b g c) (hc:c≤100000000) (k:ByteArray) (hk:k.size≤1000000) :
 ∃ w',(Instr.mapUpdate 33 (.map (some b)) (.string k) (.int .i64 1)).run Tryz.prog w = .ok () w'∧SM w' b (fun y=>if y=k.data.toList then true else g y) (if g k.data.toList then c else c+1)∧w.grownBy w' (some b):=by
 obtain ⟨D,h1,h2,h3⟩:=h
 obtain ⟨w',hr,h4,h5⟩:=h1.update LU0 Tryz.underlying33 (by unfold maxLen;omega) (XA0 k hk) (GN0 1 (by omega))
 have hs:=size_put (k:=.string k.data.toList) (h1.tidy LU0) (.lit (.int .i64 1));rw [h2.has,h3] at hs;have ht:=FH0 h4
 have hs2:Maps.size (D.put (.string k.data.toList) (.lit (.int .i64 ((1:Nat):Int))))=if g k.data.toList then c else c+1:=hs
 rw [hs2] at ht;exact ⟨w',hr,⟨_,ht,h2.put h1.isMap _,hs⟩,h5⟩
theorem SM.del (h:SM w b g c) (k:ByteArray) (hk:k.size≤1000000) (ty:TypeId) :
 ∃ w',(Builtin.delete_ #[33,9] ty #[.map (some b),.string k]).run Tryz.prog w = .ok (.tuple #[]) w'∧SM w' b (fun y=>if y=k.data.toList then false else g y) (if g k.data.toList then c-1 else c)∧w.grownBy w' (some b):=by
 obtain ⟨D,h1,h2,h3⟩:=h;obtain ⟨w',hr,h4,h5⟩:=h1.drop LU0 Tryz.underlying33 (XA0 k hk) ty;have hs:=size_del (k:=.string k.data.toList) (h1.tidy LU0);rw [h2.has,h3] at hs
 have hs2:Maps.size (D.del (.string k.data.toList))=if g k.data.toList then c-1 else c:=by
  cases hg:g k.data.toList <;> rw [hg] at hs <;> simp at hs ⊢ <;> omega
 have ht:=FH0 h4;rw [hs2] at ht;exact ⟨w',hr,⟨_,ht,h2.del _,hs2⟩,h5.grown⟩
theorem SM.look (h:SM w b g c) (k:ByteArray) (hk:k.size≤1000000):(Instr.lookup 33 (.map (some b)) (.string k) false).run Tryz.prog w = .ok (.int .i64 (if g k.data.toList then 1 else 0)) w:=by
 obtain ⟨D,h1,h2,h3⟩:=h
 obtain ⟨v,ps,hrun,hv⟩:=h1.lookup LU0 Tryz.underlying33 (VY0 w) (zd:=.lit (.int .i64 ((0:Nat):Int))) (zp:=[]) (GN0 0 (by omega)) (XA0 k hk)
 obtain ⟨a,rfl,e,_⟩:=plainElem_int_inv Tryz.underlying3 hv;have e1:=congrArg Prod.fst e;dsimp only at e1
 cases hg:g k.data.toList with
 | false =>
   rw [atKey_of_not_has ((h2 _).1 hg)] at e1
   have:((0:Nat):Int)=a:=by simpa using e1
   rw [hrun,← this];rfl
 | true =>
   rw [(h2 _).2 hg] at e1
   have:(1:Int)=a:=by simpa using e1
   rw [hrun,← this];rfl
end
section
variable (w:World) {ops:Array Oper} {rest:List Oper} {o:Oper} {a:Act} {Q:Exit→Act→World→Prop}
theorem Xj (hg:o.guard=none) (m x v:Operand) (hop:o.op=Op.mapUpdate 33 m x v) (hval:a.eval v = .int .i64 1)
 (b c:Nat) (g:Ky→Bool) (hm:a.eval m = .map (some b)) (h:SM w b g c) (hc:c≤100000000) (k:ByteArray) (hx:a.eval x = .string k) (hk:k.size≤1000000)
 (hK:∀ w',SM w' b (fun z=>if z=k.data.toList then true else g z) (if g k.data.toList then c else c+1)→w.grownBy w' (some b)→wpList Tryz.prog ops Q rest (a.put o.dst undef) w'):wpList Tryz.prog ops Q (o :: rest) a w:=by
 refine wpList_plain hg fun K' hK'=>?_
 obtain ⟨w',hrun,h1,h2⟩:=h.put hc k hk;unfold Oper.wp;simp [execOp,hop,hm,hx,hval,hrun,Result.andThen];exact hK' _ _ (hK w' h1 h2)
theorem IP0 (hg:o.guard=none) (m x:Operand) (hop:o.op=Op.call { callee:=Callee.builtin Builtin.delete,args:=#[m,x],argTypes:=#[33,9] })
 (b c:Nat) (g:Ky→Bool) (hm:a.eval m = .map (some b)) (h:SM w b g c) (k:ByteArray) (hx:a.eval x = .string k) (hk:k.size≤1000000)
 (hK:∀ w',SM w' b (fun z=>if z=k.data.toList then false else g z) (if g k.data.toList then c-1 else c)→w.grownBy w' (some b)→wpList Tryz.prog ops Q rest (a.put o.dst (.tuple #[])) w'):wpList Tryz.prog ops Q (o :: rest) a w:=by
 refine wpList_plain hg fun K' hK'=>?_
 obtain ⟨w',hrun,h1,h2⟩:=h.del k hk o.type;unfold Oper.wp;simp [execOp,hop,resolve,invoke,builtin,hm,hx,hrun,Result.andThen];exact hK' _ _ (hK w' h1 h2)
end
end Go.Proofs.YtjihboddejaelaaGreat
