/-
  The law PoolRuns: both pools over disks that fail, crash, and are opened anew.
-/
import Derived.Test.YtjihboddejaelaaGreatPr21
set_option linter.unusedVariables false
set_option linter.unusedSimpArgs false
namespace Go.Proofs.YtjihboddejaelaaGreat
open Go.RowKit
open Go.BigFrame
section
variable {w0 w w' w1 w2:World} {gd p rd r q ab ac:Nat} {x x':Bz} {y y':Qx} {a:ActV} {P P' Q Q':Pl} {b b' c c':List (Option Nat)} {D:Dk}
def Pl.onD (P:Pl) (D:Dk):Pl:={ P with L:={ P.L with D:=D } }
theorem PQA.diskP (h:PQA w0 w gd p x rd r q y ab ac a P Q) (hD:DP w' b' gd D) (ht:Turn x.b b' w w'):∃ x',PQA w0 w' gd p x' rd r q y ab ac a (P.onD D) Q:=by
 obtain ⟨h1,h2⟩:=(PM.log h.pq.pm).onDisk hD ht
 obtain ⟨h3,h4⟩:=PM.onLog (L':={ P.L with D:=D }) h.pq.pm h1 h2
 exact ⟨⟨b',x.g,x.m1,x.m2,x.e,x.h,x.t,x.A⟩,h.onP h3 h4⟩
theorem PQA.diskQ (h:PQA w0 w gd p x rd r q y ab ac a P Q) (hD:RP w' c' rd D) (ht:Turn y.b c' w w'):∃ y',PQA w0 w' gd p x rd r q y' ab ac a P (Q.onD D)∧y'.T=y.T:=by
 obtain ⟨h1,h2⟩:=h.pq.qm.log.onDisk hD ht
 obtain ⟨h3,h4⟩:=h.pq.qm.onLog h1 h2
 exact ⟨⟨c',y.c,y.k,y.T⟩,h.onQ h3 h4,rfl⟩
theorem PQ.ofTwo (h:Two w0 w gd rd b c D D) (hp:x.pm w1 gd p P) (t1:Turn b (x.all p) w w1) (hq:QM w2 rd r q y P) (t2:Turn c y.all w1 w2):PQ w0 w2 gd p x rd r q y P P:=by
 have dj:Disj (x.all p) c:=disj_turn h.disj t1 (fun k hk=>h.q.lt hk)
 have dj2:Disj y.all (x.all p):=disj_turn dj.symm t2 (fun k hk=>hp.lt hk)
 have b1:=t1.bel h.bel h.lowb h.bel.size
 exact ⟨PM.far hp t2 dj.symm,hq,dj2.symm,t1.low h.lowb h.bel.size,t2.low h.lowc b1.size,t2.bel b1 h.lowc b1.size⟩
theorem Two.rpFar {E:Dk} (h:Two w0 w gd rd b c D E) (ht:Turn b b' w w'):RP w' c rd E:=by
 obtain ⟨v,rfl,hO⟩:=h.q
 exact ⟨v,rfl,hO.far ht h.disj⟩
structure TwoA (w0 w:World) (gd rd:Nat) (b c:List (Option Nat)) (ac:Nat) (a:ActV) (D E:Dk):Prop where
 two:Two w0 w gd rd b c D E
 act:Has w ac 61 a.arr
 off1:some ac∉b
 off2:some ac∉c
 ok1:D.ok
 ok2:E.ok
 ws1:D.waits.length≤1000000000
 ws2:E.waits.length≤1000000000
theorem PQA.two (h:PQA w0 w gd p x rd r q y ab ac a P P) (ok:P.L.D.ok) (ws:P.L.D.waits.length≤1000000000):TwoA w0 w gd rd x.b y.b ac a P.L.D P.L.D :=
 ⟨h.pq.two,h.act2,fun hk=>h.off3 (List.mem_append_left _ (List.mem_append_left _ hk)),fun hk=>h.off4 (List.mem_append_left _ (List.mem_append_left _ hk)),ok,ok,ws,ws⟩
theorem TwoA.open2 (h:TwoA w0 w gd rd b c ac a D D) (hp:x.pm w1 gd p P) (t1:Turn b (x.all p) w w1) (hq:QM w2 rd r q y P) (t2:Turn c y.all w1 w2):PQA w0 w2 gd p x rd r q y ac ac a P P:=by
 have n1:=t1.not h.act.lt h.off1
 have a1:=h.act.turn t1 h.off1
 have a2:=a1.turn t2 h.off2
 have n2:=t2.not a1.lt h.off2
 exact ⟨.ofTwo h.two hp t1 hq t2,a2,n1,n2,a2,n1,n2⟩
theorem ta_CrashP {E:Dk} (h:TwoA w0 w gd rd b c ac a D E) (ho:a.Ok w0):Calls Tryz.prog 25 #[.pointer (some ⟨gd,0,none⟩),.slice a.kA a.kn a.kc] w (fun en w'=>en = .returned (.tuple #[])∧∃ b',TwoA w0 w' gd rd b' c ac a (D.crash a.ks) E) :=
 (disk_Crash gd D b a.kA a.kn a.kc a.ks w h.two.p h.ok1 h.ws1 (ho.below h.two.bel).keep (by have:=ho.len;omega) (fun h0 j hj h2=>by have:=ho.lt h0 j hj;have:=h.two.lowb j h2;omega)).mono fun en w' hp=>by
   obtain ⟨he,b',h1,h2⟩:=hp
   exact ⟨he,b',h.two.dp h1 h2,h.act.turn h2 h.off1,h2.not h.act.lt h.off1,h.off2,Dk.crash_ok h.ok1 _,h.ok2,Nat.zero_le _,h.ws2⟩
theorem ta_CrashQ {E:Dk} (h:TwoA w0 w gd rd b c ac a D E) (ho:a.Ok w0):Calls Tryz.prog 26 #[.pointer (some ⟨rd,0,none⟩),.slice a.kA a.kn a.kc] w (fun en w'=>en = .returned (.tuple #[])∧∃ c',TwoA w0 w' gd rd b c' ac a D (E.crash a.ks)) :=
 (refd_Crash rd E c a.kA a.kn a.kc a.ks w h.two.q h.ok2 h.ws2 (ho.below h.two.bel).keep (by have:=ho.len;omega) (fun h0 j hj h2=>by have:=ho.lt h0 j hj;have:=h.two.lowc j h2;omega)).mono fun en w' hp=>by
   obtain ⟨he,c',h1,h2⟩:=hp
   exact ⟨he,c',h.two.rp h1 h2,h.act.turn h2 h.off2,h.off1,h2.not h.act.lt h.off2,h.ok1,Dk.crash_ok h.ok2 _,h.ws1,Nat.zero_le _⟩
structure Opens (gd rd:Nat) (M:Nat) (D:Dk) (P:Pl):Prop where
 prog:∀ b w1,DP w1 b gd D→Calls Tryz.prog 7 #[.pointer (some ⟨gd,0,none⟩),.int .i64 M] w1 (OpenedPost w1 b gd P 0)
 ref:∀ c w1,RP w1 c rd D→Calls Tryz.prog 19 #[.pointer (some ⟨rd,0,none⟩),.int .i64 M] w1 (OpenedPostR w1 c rd P)
theorem opens_first (gd rd:Nat) {M:Nat} (h8:8≤M) (h64:M≤64):∃ P,Opens gd rd M Dk.new P∧Live P 1000 0 100 100:=by
 obtain ⟨o1,o2,o3,o4,o5,o6,o7,o8⟩:=first_live h8 h64
 refine ⟨_,⟨fun b w1 h1=>?_,fun c w1 h1=>?_⟩,o8⟩
 ·have:=pool_Open b gd Dk.new M h8 h64 w1 h1 (new_fit.less (by omega)) rfl (fun _=>⟨rfl,rfl⟩) o1 (opened_fit (new_fit.less (by omega))) o2
  rw [o7] at this;exact this
 ·exact ref_OpenPool c rd Dk.new M h8 h64 w1 h1 (new_fit.less (by omega)) ⟨rfl,rfl⟩ o1 (opened_fit (new_fit.less (by omega))) o2 (o4.less (by omega)) o3 0 (by omega) o5 o6
theorem opens_again (gd rd:Nat) {W cc:Nat} (h:Told D W cc) (hc:cc≤3000000000000000000) (ks:List Int) {M:Nat} (h8:8≤M) (h64:M≤64):∃ P,Opens gd rd M (D.crash ks) P∧Live P W 0 0 cc:=by
 obtain ⟨fB,hf,o1,o2,o3,o4,o5,o6,o7,o8,o9⟩:=opened_live h ks h8 h64
 have fit:Fit (D.crash ks) 1000:=⟨Dk.crash_ok h.ok ks,by show D.count+1000≤_;have:=h.count;omega,by show 0+1000≤_;omega⟩
 have fitO:Fit (Lg.opened (D.crash ks)).D 4:=by rw [o4];exact fit.less (by omega)
 have fitB:Fit (Pl.begun (D.crash ks)).D 0:=by rw [o3,o4];exact fit.less (by omega)
 refine ⟨_,⟨fun b w1 h1=>?_,fun c w1 h1=>?_⟩,o9⟩
 ·have:=pool_Open b gd (D.crash ks) M h8 h64 w1 h1 (fit.less (by omega)) rfl (fun _=>crash_calm _ _) o1 fitO (fun h2=>absurd h2 o2)
  rw [o7] at this;exact this
 ·exact ref_OpenPool c rd (D.crash ks) M h8 h64 w1 h1 (fit.less (by omega)) (crash_calm _ _) o1 fitO (fun h2=>absurd h2 o2) fitB (by rw [o3,o4];rfl) fB hf (by rw [o3];exact o5) (by rw [o3];exact o6)
theorem after_fail {W k cw cc:Nat} (h:After P W k cw cc) {n:Int} (hn:n≤9223372036854775807):After (P.onD (P.L.D.fail n)) W k cw cc :=
 ⟨fun hd=>live_fail (h.live hd) hn,fun hd=>by
   have l:=h.lost hd
   exact ⟨Dk.fail_ok l.ok hn,hd,l.count,l.waits,l.lost⟩⟩
end
theorem pool_Open_no (gd:Nat) (most:Int) (hm:¬ (8≤most∧most≤64)) (w:World) :
 Calls Tryz.prog 7 #[.pointer (some ⟨gd,0,none⟩),.int .i64 most] w fun e w'=>e = .returned (.tuple #[.pointer none,.int .i64 1])∧w=w':=by
 by_cases h8:most<8
 ·have e8:decide (most<8)=true:=decide_eq_true h8
  clear hm
  go_enter Tryz.func7,Tryz.ntmps7
  go_wp2_with fail
  go_ret2
  exact ⟨rfl,rfl⟩
 ·have e8:decide (most<8)=false:=decide_eq_false h8
  have e9:decide (64<most)=true:=decide_eq_true (by omega)
  clear hm h8
  go_enter Tryz.func7,Tryz.ntmps7
  go_wp2_with fail
  go_ret2
  exact ⟨rfl,rfl⟩
end Go.Proofs.YtjihboddejaelaaGreat
