/-
  begin of package wal: the whole.
-/
import Derived.Test.YtjihboddejaelaaGreatPr8
import Derived.Test.YtjihboddejaelaaGreatPr5
set_option linter.unusedVariables false
set_option linter.unusedSimpArgs false
namespace Go.Proofs.YtjihboddejaelaaGreat
open Go.RowKit
open Go.BigFrame
open Go.Maps
theorem enter_begin1 (cs:Array Value) (u:World):(callFunc 184 cs).run Tryz.prog u = .ok (.enter 184 cs) u:=by kernel_rfl
theorem enter_begin2 (cs:Array Value) (u:World):(callFunc 185 cs).run Tryz.prog u = .ok (.enter 185 cs) u:=by kernel_rfl
theorem enter_begin3 (cs:Array Value) (u:World):(callFunc 186 cs).run Tryz.prog u = .ok (.enter 186 cs) u:=by kernel_rfl
theorem enter_begin4 (cs:Array Value) (u:World):(callFunc 188 cs).run Tryz.prog u = .ok (.enter 188 cs) u:=by kernel_rfl
def beginFs (N:Nat):List (FuncId×Array Value):=[(184,#[.pointer (some ⟨N,0,none⟩)]),(185,#[.pointer (some ⟨N,0,none⟩)]),(186,#[.pointer (some ⟨N,0,none⟩)]),(188,#[.pointer (some ⟨N,0,none⟩)])]
def beginXs (gs N g:Nat) (cs:Array Value):List (Nat×TypeId×Array Value) :=
 [(gs,50,((beginFs N).map (fun x=>Value.func (.func x.1) #[] x.2)).toArray),(N,97,#[.pointer (some ⟨g,0,none⟩)]),(g,181,cs)]
set_option maxRecDepth 100000 in
theorem wal_beginChain (b:List (Option Nat)) (gd g p N gs:Nat) (D:Dk) (cs:Array Value) (w:World) (hgs:gs=w.heap.size) (h:DP w b gd D) (hh:Has w g 181 cs) (hg:cs[0]? = some (.pointer (some ⟨gd,0,none⟩))) (hg5:cs[5]? = some (.int .i64 p)) (hx:Has w N 97 #[.pointer (some ⟨g,0,none⟩)])
 (hgb:some g∉b) (hNb:some N∉b) (hfit:Fit D 4) (hc:D.calm) (hp:p≤4611686018427387904) :
 Calls Tryz.prog 116 #[.slice (some ⟨gs,0,none⟩) 4 4] (w.alloc (.cells ((beginFs N).map (fun x=>Value.func (.func x.1) #[] x.2)).toArray 50)).drew fun e w'=>e = .returned (.int .i64 0)∧HeldD w b gd (beginXs gs N g cs) (beginD D p 4) w':=by
 subst hgs
 have hb:=Below.drew <| (Below.refl w.heap.size w).alloc (Nat.le_refl _) (.cells ((beginFs N).map (fun x=>Value.func (.func x.1) #[] x.2)).toArray 50)
 refine disk_chain (beginFs N) w.heap.size 4 w b gd (beginXs w.heap.size N g cs) (beginD D p) 50 _ rfl (by omega) (by simp [beginXs]) ⟨b,h.below hb, ?_, ?_,Turn.below _ hb⟩ ?_ ?_
 ·intro x hx2
  simp only [beginXs,List.mem_cons,List.not_mem_nil,or_false] at hx2
  rcases hx2 with rfl | rfl | rfl
  ·exact Has.new _ _ _
  ·exact hx.alloc _
  ·exact hh.alloc _
 ·intro x hx2 h2
  simp only [beginXs,List.mem_cons,List.not_mem_nil,or_false] at hx2
  rcases hx2 with rfl | rfl | rfl
  ·have:=h.lt h2;simp only at this;omega
  ·exact hNb h2
  ·exact hgb h2
 ·intro i k cs hi u
  have h4:i<4:=(List.getElem?_eq_some_iff.1 hi).1
  obtain rfl | rfl | rfl | rfl:i=0∨i=1∨i=2∨i=3:=by omega
  ·cases hi;exact enter_begin1 _ _
  ·cases hi;exact enter_begin2 _ _
  ·cases hi;exact enter_begin3 _ _
  ·cases hi;exact enter_begin4 _ _
 ·intro i k cs2 hi u b' hl hx2 ho
  have hN:Has u N 97 #[.pointer (some ⟨g,0,none⟩)]:=hx2 (N,_,_) (by simp [beginXs])
  have hG:Has u g 181 cs:=hx2 (g,_,_) (by simp [beginXs])
  have f1:Fit (D.cutD 1 0) 3:=hfit.cut _ _
  have f2:Fit ((D.cutD 1 0).sync 1) 2:=f1.sync _
  have f3:Fit (((D.cutD 1 0).sync 1).write 1 0 (bsOf (markL++slotL 1 0 p))) 1:=f2.write _ _ _
  have c1:(D.cutD 1 0).calm:=hc.cut _ _
  have c2:((D.cutD 1 0).sync 1).calm:=c1.sync _
  have c3:(((D.cutD 1 0).sync 1).write 1 0 (bsOf (markL++slotL 1 0 p))).calm:=c2.write _ _ _
  have h4:i<4:=(List.getElem?_eq_some_iff.1 hi).1
  obtain rfl | rfl | rfl | rfl:i=0∨i=1∨i=2∨i=3:=by omega
  ·cases hi;exact wal_begin1 b' gd g D N u hl ((hG.cell 0).trans hg) hG.lt hN (hfit.less (by omega)) hc
  ·cases hi;exact walD_begin2 b' gd g _ N u hl ((hG.cell 0).trans hg) hG.lt hN (f1.less (by omega)) c1
  ·cases hi;exact wal_begin3 b' gd g p _ N cs u hl hG hg hg5 hN (f2.less (by omega)) c2 hp
  ·cases hi;exact walD_begin4 b' gd g _ N u hl ((hG.cell 0).trans hg) hG.lt hN f3 c3
def BeginPost (w:World) (b:List (Option Nat)) (gd g:Nat) (D':Dk) (cs:Array Value) (e:Ending) (w':World):Prop :=
 e = .returned (.int .i64 0)∧∃ b',DP w' b' gd D'∧Has w' g 181 cs∧Turn (b++[some g]) (b'++[some g]) w w'∧some g∉b'
set_option maxRecDepth 100000 in
set_option maxHeartbeats 3200000 in
theorem wal_begin (b:List (Option Nat)) (gd g p:Nat) (D:Dk) (a1 a2 a3 a4 a6 a7 a8:Value) (w:World) (h:DP w b gd D) (hh:Has w g 181 #[.pointer (some ⟨gd,0,none⟩),a1,a2,a3,a4,.int .i64 p,a6,a7,a8]) (hgb:some g∉b) (hfit:Fit D 4) (hc:D.calm) (hp:p≤4611686018427387904) :
 Calls Tryz.prog 113 #[.pointer (some ⟨g,0,none⟩)] w (BeginPost w b gd g (beginD D p 4) #[.pointer (some ⟨gd,0,none⟩),a1,a2,a3,a4,.int .i64 p,a6,.int .i64 0,.int .i64 1]):=by
 have HL:=Lib.hid h
 have HH:=Lib.hid hh
 have HO:=Lib.hid hgb
 have HF:=Lib.hid hfit
 have W1:=Lib.hid (show Has (w.alloc (.cells #[.pointer (some ⟨g,0,none⟩)] 97)) w.heap.size 97 #[.pointer (some ⟨g,0,none⟩)]∧Below w.heap.size w (w.alloc (.cells #[.pointer (some ⟨g,0,none⟩)] 97)) from ⟨Has.new _ _ _,(Below.refl _ _).alloc (Nat.le_refl _) _⟩)
 have gz:=hh.lt
 clear h hh hgb hfit
 go_enter Tryz.func113,Tryz.ntmps113
 go_upto_region 1 with fail
 generalize w.alloc (.cells #[.pointer (some ⟨g,0,none⟩)] 97)=W at *
 have H1:=Lib.hid (HL.out.below W1.out.2)
 have H2:=Lib.hid (HH.out.belowS W1.out.2)
 have x0:=W1.out.1.cell 0
 have x7:W.cell? ⟨g,7,none⟩=some a7:=H2.out.cell 7
 have x8:W.cell? ⟨g,8,none⟩=some a8:=H2.out.cell 8
 have xf:=H2.out.frozen
 have xz:=H2.out.lt
 go_region
 all_goals
  have TS:=Lib.hid (((Turn.cell g 7 (.int .i64 0) W).trans (Turn.cell g 8 (.int .i64 1) _)))
  have gb:=HO.out
  have D2:=Lib.hid (H1.out.turn TS.out (fun k hk h3=>gb ((show k=g by simpa using hk) ▸ h3)))
  have G2:=Lib.hid (show Has ((W.setCell ⟨g,7,none⟩ (.int .i64 0)).setCell ⟨g,8,none⟩ (.int .i64 1)) g 181 #[.pointer (some ⟨gd,0,none⟩),a1,a2,a3,a4,.int .i64 p,a6,.int .i64 0,.int .i64 1] from ((H2.out.set 7 _).set 8 _))
  have X2:=Lib.hid (W1.out.1.turn TS.out (fun h3=>Nat.ne_of_gt gz (show w.heap.size=g by simpa using h3)))
  have y0:=X2.out.cell 0
  have CH:=Lib.hid (wal_beginChain b gd g p w.heap.size W.heap.size D #[.pointer (some ⟨gd,0,none⟩),a1,a2,a3,a4,.int .i64 p,a6,.int .i64 0,.int .i64 1] ((W.setCell ⟨g,7,none⟩ (.int .i64 0)).setCell ⟨g,8,none⟩ (.int .i64 1)) (by simp) D2.out G2.out rfl rfl X2.out HO.out (fun h3=>by have:=HL.out.lt h3;omega) HF.out hc hp)
  go_wp2_with (go_at_call 116;refine CH.out.mono ?_;rintro e w2 ⟨rfl,hH⟩;have HH2:=Lib.hid hH;clear hH)
  go_ret
  obtain ⟨b',q1,q2,q3,q4⟩:=HH2.out
  have q5:Has w2 g 181 #[.pointer (some ⟨gd,0,none⟩),a1,a2,a3,a4,.int .i64 p,a6,.int .i64 0,.int .i64 1]:=q2 (g,_,_) (by simp [beginXs])
  have q6:some g∉b':=q3 (g,181,#[.pointer (some ⟨gd,0,none⟩),a1,a2,a3,a4,.int .i64 p,a6,.int .i64 0,.int .i64 1]) (by simp [beginXs])
  refine ⟨rfl,b',q1,q5, ?_,q6⟩
  exact ((Turn.below _ W1.out.2).trans (TS.out.right b)).trans (q4.left [some g])
end Go.Proofs.YtjihboddejaelaaGreat
namespace Go.Proofs.YtjihboddejaelaaGreat
open Go.RowKit
open Go.BigFrame
open Go.Maps
set_option maxRecDepth 100000 in
set_option maxHeartbeats 800000 in
theorem wal_Commit1 (b:List (Option Nat)) (gd g m1 m2:Nat) (R:Rw) (n:Int) (t:ByteArray) (bl bn bt:Nat) (w:World) (h:LR w b gd g m1 m2 R) (hl:Has w bl 97 #[.pointer (some ⟨g,0,none⟩)]) (hn:Has w bn 3 #[.int .i64 n]) (ht:Has w bt 9 #[.string t]) (hfit:Fit R.D 1) (hnf:R.nf≤100000) :
 Calls Tryz.prog 117 #[.pointer (some ⟨bl,0,none⟩),.pointer (some ⟨bn,0,none⟩),.pointer (some ⟨bt,0,none⟩)] w (LinkPost w b gd g m1 m2 (R.app n t) (R.appE n t)):=by
 have TP:=Lib.hid (wal_Append b gd g m1 m2 R n t w h hfit hnf)
 obtain ⟨E,hE⟩:∃ x,R.appE n t=x:=⟨_,rfl⟩
 rw [hE] at TP ⊢
 have x0:=hl.cell 0
 have x1:=hn.cell 0
 have x2:=ht.cell 0
 clear hE h hl hn ht hfit
 go_enter Tryz.func117,Tryz.ntmps117
 go_wp2_with (go_at_call 98;(with_reducible refine TP.out.mono ?_);rintro e w2 ⟨rfl,hd2⟩;have HD:=Lib.hid hd2;clear hd2)
 go_ret
 exact ⟨rfl,HD.out⟩
set_option maxRecDepth 100000 in
set_option maxHeartbeats 1600000 in
theorem wal_Commit3 (b:List (Option Nat)) (gd g m1 m2:Nat) (R:Rw) (p:Nat) (bl bp:Nat) (w:World) (h:LR w b gd g m1 m2 R) (hl:Has w bl 97 #[.pointer (some ⟨g,0,none⟩)]) (hpb:Has w bp 3 #[.int .i64 p]) (hfit:Fit R.D 2) (hs:R.slot<2) (hnum:R.number<4) (hf:R.nf≤4611686018427387904) (hp:p≤4611686018427387904) :
 Calls Tryz.prog 120 #[.pointer (some ⟨bl,0,none⟩),.pointer (some ⟨bp,0,none⟩)] w (LinkPost w b gd g m1 m2 (R.tell R.nf p) (R.tellE R.nf p)):=by
 have hd:=(Below.refl w.heap.size w).drew
 have TP:=Lib.hid (wal_tell b gd g m1 m2 R R.nf p w.drew (h.below hd) hfit hs hnum hf hp)
 obtain ⟨E,hE⟩:∃ x,R.tellE R.nf p=x:=⟨_,rfl⟩
 rw [hE] at TP ⊢
 have x0:=hl.cell 0
 have x1:=hpb.cell 0
 have x2:w.cell? ⟨g,1,none⟩=some (.int .i64 R.nf):=h.has.cell 1
 have gz:=h.has.lt
 have HB:=Lib.hid (Turn.below (b++lb g m1 m2) hd)
 clear hE h hl hpb hfit hd
 go_enter Tryz.func120,Tryz.ntmps120
 go_wp2_with fail
 go_region_with
  (go_at_call 121;(with_reducible refine TP.out.mono ?_);rintro e w2 ⟨rfl,hd2⟩;have HD:=Lib.hid hd2;clear hd2)
 all_goals
  go_wp2_with fail
  go_ret
  obtain ⟨b',q1,q2⟩:=HD.out
  exact ⟨rfl,b',q1,HB.out.trans q2⟩
theorem app_same (R:Rw) (n:Int) (t:ByteArray):(R.app n t).slot=R.slot∧(R.app n t).number=R.number∧(R.app n t).nf≤R.nf+1∧(R.app n t).np=R.np∧(R.app n t).kf=R.kf∧(R.app n t).kp=R.kp:=by
 unfold Rw.app
 split
 ·split
  ·exact ⟨rfl,rfl,Nat.le_refl _,rfl,rfl,rfl⟩
  ·exact ⟨rfl,rfl,Nat.le_succ _,rfl,rfl,rfl⟩
 ·exact ⟨rfl,rfl,Nat.le_succ _,rfl,rfl,rfl⟩
theorem app_fit {R:Rw} {k:Nat} (h:Fit R.D (k+1)) (n:Int) (t:ByteArray):Fit (R.app n t).D k:=by
 unfold Rw.app
 split
 ·split
  ·exact h.write _ _ _
  ·exact h.write _ _ _
 ·exact h.less (by omega)
theorem enter_Commit1 (cs:Array Value) (u:World):(callFunc 117 cs).run Tryz.prog u = .ok (.enter 117 cs) u:=by kernel_rfl
theorem enter_Commit2 (cs:Array Value) (u:World):(callFunc 118 cs).run Tryz.prog u = .ok (.enter 118 cs) u:=by kernel_rfl
theorem enter_Commit3 (cs:Array Value) (u:World):(callFunc 120 cs).run Tryz.prog u = .ok (.enter 120 cs) u:=by kernel_rfl
def commitFs (N:Nat):List (FuncId×Array Value):=[(117,#[.pointer (some ⟨N,0,none⟩),.pointer (some ⟨N+1,0,none⟩),.pointer (some ⟨N+1+1,0,none⟩)]),(118,#[.pointer (some ⟨N,0,none⟩)]),(120,#[.pointer (some ⟨N,0,none⟩),.pointer (some ⟨N+1+1+1,0,none⟩)])]
def commitXs (gs N g:Nat) (n:Int) (t:ByteArray) (p:Nat):List (Nat×TypeId×Array Value) :=
 [(gs,50,((commitFs N).map (fun x=>Value.func (.func x.1) #[] x.2)).toArray),(N,97,#[.pointer (some ⟨g,0,none⟩)]),(N+1,3,#[.int .i64 n]),(N+1+1,9,#[.string t]),(N+1+1+1,3,#[.int .i64 p])]
structure CommitBox (u:World) (N g:Nat) (n:Int) (t:ByteArray) (p:Nat):Prop where
 l:Has u N 97 #[.pointer (some ⟨g,0,none⟩)]
 n:Has u (N+1) 3 #[.int .i64 n]
 t:Has u (N+1+1) 9 #[.string t]
 p:Has u (N+1+1+1) 3 #[.int .i64 p]
theorem commitBox_of {u:World} {gs N g:Nat} {n:Int} {t:ByteArray} {p:Nat} (h:Boxes u (commitXs gs N g n t p)):CommitBox u N g n t p :=
 ⟨h (N,_,_) (by simp [commitXs]),h (N+1,_,_) (by simp [commitXs]),h (N+1+1,_,_) (by simp [commitXs]),h (N+1+1+1,_,_) (by simp [commitXs])⟩
set_option maxRecDepth 100000 in
theorem wal_commitChain (b:List (Option Nat)) (gd g m1 m2:Nat) (R:Rw) (n:Int) (t:ByteArray) (p gs:Nat) (w wc:World) (h:LR w b gd g m1 m2 R) (hfit:Fit R.D 4) (hs:R.slot<2) (hnum:R.number<4) (hnf:R.nf≤100000) (hp:p≤4611686018427387904)
 (hb:Below w.heap.size w wc) (hgx:Has wc gs 50 ((commitFs w.heap.size).map (fun x=>Value.func (.func x.1) #[] x.2)).toArray) (hx:CommitBox wc w.heap.size g n t p) (hgs:w.heap.size≤gs) :
 Calls Tryz.prog 116 #[.slice (some ⟨gs,0,none⟩) 3 3] wc fun e w'=>e = .returned (.int .i64 (upTo (commitEs R n t p) 3).2)∧Held w b gd g m1 m2 (commitXs gs w.heap.size g n t p) (commitR R n t p (upTo (commitEs R n t p) 3).1) w':=by
 refine wal_chain (commitFs w.heap.size) gs 3 w b gd g m1 m2 _ (commitR R n t p) (commitEs R n t p) 50 wc rfl (by omega) (by simp [commitXs]) ⟨b,h.below hb, ?_, ?_,Turn.below _ hb⟩ ?_ ?_
 ·intro x hx2
  simp only [commitXs,List.mem_cons,List.not_mem_nil,or_false] at hx2
  rcases hx2 with rfl | rfl | rfl | rfl | rfl
  ·exact hgx
  ·exact hx.l
  ·exact hx.n
  ·exact hx.t
  ·exact hx.p
 ·intro x hx2 h2
  have h3:=h.lt h2
  simp only [commitXs,List.mem_cons,List.not_mem_nil,or_false] at hx2
  rcases hx2 with rfl | rfl | rfl | rfl | rfl <;> simp only at h3 <;> omega
 ·intro i k cs hi u
  have h4:i<3:=(List.getElem?_eq_some_iff.1 hi).1
  obtain rfl | rfl | rfl:i=0∨i=1∨i=2:=by omega
  ·cases hi;exact enter_Commit1 _ _
  ·cases hi;exact enter_Commit2 _ _
  ·cases hi;exact enter_Commit3 _ _
 ·intro i k cs hi u b' hl hx2 ho hu
  have h4:i<3:=(List.getElem?_eq_some_iff.1 hi).1
  have hB:=commitBox_of hx2
  obtain ⟨a1,a2,a3,_⟩:=app_same R n t
  have f1:Fit (R.app n t).D 3:=app_fit hfit n t
  have f2:Fit ((R.app n t).D.sync 1) 2:=f1.sync _
  obtain rfl | rfl | rfl:i=0∨i=1∨i=2:=by omega
  ·cases hi
   exact wal_Commit1 b' gd g m1 m2 R n t _ _ _ u hl hB.l hB.n hB.t (hfit.less (by omega)) hnf
  ·cases hi
   exact (wal_Commit2 b' gd g m1 m2 (R.app n t) _ u hl hB.l (f1.less (by omega))).mono fun e w' hp=>LinkPost.ofDisk (R:=R.app n t) hl hp
  ·cases hi
   exact wal_Commit3 b' gd g m1 m2 { R.app n t with D:=(R.app n t).D.sync 1 } p _ _ u hl hB.l hB.p f2 (a1 ▸ hs) (a2 ▸ hnum) (show (R.app n t).nf≤_ by omega) hp
end Go.Proofs.YtjihboddejaelaaGreat
namespace Go.Proofs.YtjihboddejaelaaGreat
open Go.RowKit
open Go.BigFrame
open Go.Maps
section
variable {w0 w w':World} {b c:List (Option Nat)} {gd g m1 m2 m n:Nat} {R:Rw} {f:Int→Nat}
theorem LR.newKept (h:LR w b gd g m1 m2 R) (ht:Turn c (b++lb g m1 m2) w0 w) (hm:MP w m n f) (hoff:some m∉b++lb g m1 m2) (hlow:w0.heap.size≤m) (p:Nat) :
 LR (((w.setCell ⟨g,4,none⟩ (.int .i64 n)).setCell ⟨g,5,none⟩ (.int .i64 p)).setCell ⟨g,6,none⟩ (.map (some m))) b gd g m1 m { R with kf:=n,kp:=p,f2:=f } ∧
 Turn c (b++lb g m1 m) w0 (((w.setCell ⟨g,4,none⟩ (.int .i64 n)).setCell ⟨g,5,none⟩ (.int .i64 p)).setCell ⟨g,6,none⟩ (.map (some m))):=by
 have t1:Turn [some g] [some g] w (((w.setCell ⟨g,4,none⟩ (.int .i64 n)).setCell ⟨g,5,none⟩ (.int .i64 p)).setCell ⟨g,6,none⟩ (.map (some m))):=((Turn.cell g 4 _ w).trans (Turn.cell g 5 _ _)).trans (Turn.cell g 6 _ _)
 have hg:some g∈b++lb g m1 m2:=List.mem_append_right _ (mem_lb.2 (.inl rfl))
 have hmg:m≠g:=by rintro rfl;exact hoff hg
 have hm1:m1≠m:=by rintro rfl;exact hoff (List.mem_append_right _ (mem_lb.2 (.inr (.inl rfl))))
 have hmb:some m∉b:=fun h2=>hoff (List.mem_append_left _ h2)
 refine ⟨⟨h.disk.turn t1 fun k hk h2=>?_,((h.has.set 4 _).set 5 _).set 6 _,h.map1.turn t1 fun h3=>h.ne1 (by simpa using h3:m1=g).symm,hm.turn t1 fun h3=>hmg (by simpa using h3),hm1,fun k hk h2=>?_⟩, ?_⟩
 ·have:k=g:=by simpa using hk
  subst this;exact h.off.1 h2
 ·rcases mem_lb.1 h2 with rfl | rfl | rfl
  ·exact h.off.1 hk
  ·exact h.off.2.1 hk
  ·exact hmb hk
 ·refine ht.trans' t1 (fun k hk=>?_) (fun k hk=>?_)
  ·have:k=g:=by simpa using hk
   subst this;exact hg
  ·rcases List.mem_append.1 hk with h2 | h2
   ·exact .inl (List.mem_append_left _ h2)
   ·rcases mem_lb.1 h2 with rfl | rfl | rfl
    ·exact .inl hg
    ·exact .inl (List.mem_append_right _ (mem_lb.2 (.inr (.inl rfl))))
    ·exact .inr hlow
end
theorem commitR_nf (R:Rw) (n:Int) (t:ByteArray) (p k:Nat):(commitR R n t p k).nf≤R.nf+1:=by
 obtain ⟨_,_,a3,_⟩:=app_same R n t
 unfold commitR
 split
 ·exact Nat.le_succ _
 ·exact a3
 ·exact a3
 ·rw [(tell_same _ _ _).1];exact a3
def commitW (w:World) (g:Nat) (n:Int) (t:ByteArray) (p:Nat):World:=(((w.alloc (.cells #[.pointer (some ⟨g,0,none⟩)] 97)).alloc (.cells #[.int .i64 n] 3)).alloc (.cells #[.string t] 9)).alloc (.cells #[.int .i64 p] 3)
theorem commitW_box (w:World) (g:Nat) (n:Int) (t:ByteArray) (p:Nat):CommitBox (commitW w g n t p) w.heap.size g n t p∧Below w.heap.size w (commitW w g n t p)∧(commitW w g n t p).heap.size=w.heap.size+4:=by
 have a1:=Has.new w 97 #[.pointer (some ⟨g,0,none⟩)]
 have a2:=Has.new (w.alloc (.cells #[.pointer (some ⟨g,0,none⟩)] 97)) 3 #[.int .i64 n]
 have a3:=Has.new ((w.alloc (.cells #[.pointer (some ⟨g,0,none⟩)] 97)).alloc (.cells #[.int .i64 n] 3)) 9 #[.string t]
 have a4:=Has.new (((w.alloc (.cells #[.pointer (some ⟨g,0,none⟩)] 97)).alloc (.cells #[.int .i64 n] 3)).alloc (.cells #[.string t] 9)) 3 #[.int .i64 p]
 rw [World.size_alloc] at a2
 rw [World.size_alloc,World.size_alloc] at a3
 rw [World.size_alloc,World.size_alloc,World.size_alloc] at a4
 exact ⟨⟨((a1.alloc _).alloc _).alloc _,(a2.alloc _).alloc _,a3.alloc _,a4⟩,((((Below.refl _ _).alloc (Nat.le_refl _) _).alloc (by simp) _).alloc (by simp;omega) _).alloc (by simp;omega) _,by simp [commitW]⟩
set_option maxRecDepth 100000 in
set_option maxHeartbeats 3200000 in
theorem wal_Commit (b:List (Option Nat)) (gd g m1 m2:Nat) (R:Rw) (n:Int) (t:ByteArray) (p:Int) (w:World) (h:LR w b gd g m1 m2 R) (hfit:Fit R.D 4) (hs:R.slot<2) (hnum:R.number<4) (hnf:R.nf≤100000) :
 Calls Tryz.prog 40 #[.pointer (some ⟨g,0,none⟩),.int .i64 n,.string t,.int .i64 p] w (MapsPost w b gd g m1 m2 (R.commit n t p) (.int .i64 (R.commitE n t p))):=by
 by_cases hp:1≤p∧p≤65536
 ·obtain ⟨q,rfl⟩:∃ q:Nat,p=q:=⟨p.toNat,(Int.toNat_of_nonneg (by omega)).symm⟩
  have r1:=Lib.hid (show R.commit n t q=if (upTo (commitEs R n t q) 3).2=0 then { commitR R n t q (upTo (commitEs R n t q) 3).1 with np:=q,kf:=(commitR R n t q (upTo (commitEs R n t q) 3).1).nf,kp:=q,f2:=(commitR R n t q (upTo (commitEs R n t q) 3).1).f1 } else commitR R n t q (upTo (commitEs R n t q) 3).1 from if_pos hp)
  have r2:R.commitE n t q=(upTo (commitEs R n t q) 3).2:=if_pos hp
  rw [r2]
  have HB:=Lib.hid (commitW_box w g n t q)
  have d1:decide ((q:Int)<1)=false:=by simp;omega
  have d2:decide ((65536:Int)<(q:Int))=false:=by simp;omega
  have CH:=Lib.hid (fun (W:World) (hW:Below w.heap.size w W) (hbx:CommitBox W w.heap.size g n t q)=>wal_commitChain b gd g m1 m2 R n t q W.heap.size w (W.alloc (.cells ((commitFs w.heap.size).map (fun x=>Value.func (.func x.1) #[] x.2)).toArray 50)) h hfit hs hnum hnf (by omega) (hW.alloc hW.size _) (Has.new _ _ _) ⟨hbx.l.alloc _,hbx.n.alloc _,hbx.t.alloc _,hbx.p.alloc _⟩ hW.size)
  obtain ⟨E,hE⟩:∃ E,(upTo (commitEs R n t q) 3).2=E:=⟨_,rfl⟩
  have hC:=commitR_nf R n t q (upTo (commitEs R n t q) 3).1
  obtain ⟨C,hC2⟩:∃ C,commitR R n t q (upTo (commitEs R n t q) 3).1=C:=⟨_,rfl⟩
  rw [hC2] at hC
  rw [hE,hC2] at CH r1
  rw [hE]
  have HL:=Lib.hid h
  have HQ:=Lib.hid hp
  have HNF:=Lib.hid (show C.nf≤1000000 by omega)
  clear hE hC hC2 h hfit hp r2 hnf
  go_enter Tryz.func40,Tryz.ntmps40
  go_upto_region 1 with fail
  rw [show (((w.alloc (.cells #[.pointer (some ⟨g,0,none⟩)] 97)).alloc (.cells #[.int .i64 n] 3)).alloc (.cells #[.string t] 9)).alloc (.cells #[.int .i64 q] 3)=commitW w g n t q from rfl]
  generalize commitW w g n t q=W at *
  obtain ⟨hbx,hbw,hsz⟩:=HB.out
  have HBX:=Lib.hid hbx;have HBW:=Lib.hid hbw;have HSZ:=Lib.hid hsz
  have x0:=hbx.l.cell 0
  have x3:=hbx.p.cell 0
  have CW:=Lib.hid (CH.out W hbw hbx)
  clear hbx hbw hsz HB CH
  have CP:=Lib.hid (fun w1 (h1:MP w1 m1 C.nf C.f1)=>wal_copied m1 C.nf q C.nf C.f1 w1 HNF.out h1)
  go_wp2_with ((go_at_call 116;refine CW.out.mono ?_);rintro e w2 ⟨rfl,hH⟩;obtain ⟨b',hl,hx,ho,ht⟩:=hH;have HL2:=Lib.hid hl;have HX:=Lib.hid (commitBox_of hx);have HT:=Lib.hid ht;have HOG:=Lib.hid (ho (w.heap.size,97,#[.pointer (some ⟨g,0,none⟩)]) (by simp [commitXs]));have y0:=(commitBox_of hx).l.cell 0;have y3:=(commitBox_of hx).p.cell 0;obtain ⟨z1,z2,z3⟩:=hl.now;obtain ⟨z4,z5,z6⟩:=hl.old;have zf:=hl.has.frozen;have gz:=hl.has.lt;clear hl hx ho ht)
  ·have hE0:E=0:=by rename_i hE;simpa using hE
   have R1:=Lib.hid (r1.out.trans (if_pos hE0))
   have HS:=Lib.hid (HL2.out.set 2 (.int .i64 q) { C with np:=q } rfl rfl HL2.out.map1 HL2.out.map2)
   have HY:=Lib.hid (HX.out.l.far (p:=⟨g,2,none⟩) (fun e=>HOG.out (by rw [e];exact List.mem_append_right _ (mem_lb.2 (.inl rfl)))) (.int .i64 q))
   clear y0 y3 z1 z2 z3 z4 z5 z6 zf gz x0 x3 CW
   generalize w2.setCell ⟨g,2,none⟩ (.int .i64 q)=V at *
   have y0:=HY.out.cell 0
   have LV:=Lib.hid HS.out.1
   obtain ⟨z1,z2,z3⟩:=LV.out.now
   obtain ⟨z4,z5,z6⟩:=LV.out.old
   have zf:=LV.out.has.frozen
   have gz:=LV.out.has.lt
   have LD:=Lib.hid (LV.out.below (Below.refl _ _).drew)
   have YD:=Lib.hid (HY.out.belowS (Below.refl _ _).drew)
   go_region_with ((go_at_call 115;refine (CP.out _ LD.out.map1).mono ?_);rintro e w3 ⟨m,rfl,hm,hlow,hb⟩;have HM:=Lib.hid hm;have HW:=Lib.hid hlow;have HB:=Lib.hid hb;have c1:=(LD.out.below hb).old;have y1:=(LD.out.below hb).has.lt;have yf:=(LD.out.below hb).has.frozen;have yl:=(YD.out.belowS hb).cell 0;clear hm hlow hb;obtain ⟨c1,c2,c3⟩:=c1)
   all_goals
    go_wp2_with fail
    go_ret
    have H3:=LD.out.below HB.out
    have hv:Turn (b'++lb g m1 m2) (b'++lb g m1 m2) V V.drew:=Turn.below _ (Below.refl _ _).drew
    obtain ⟨h4,t4⟩:=H3.newKept (hv.trans (Turn.below _ HB.out)) HM.out (fun h3=>by have:=LD.out.lt h3;have:=HW.out;omega) HW.out q
    rw [hE0,R1.out]
    exact ⟨rfl,b',m1,m,h4,(HT.out.trans HS.out.2).trans t4⟩
  ·have hE0:E≠0:=by rename_i hE;simpa using hE
   go_ret
   rw [r1.out,if_neg hE0]
   exact ⟨rfl,b',m1,m2,HL2.out,HT.out⟩
 ·have r1:R.commit n t p=R:=if_neg hp
  have r2:R.commitE n t p=1:=if_neg hp
  rw [r1,r2]
  have HL:=Lib.hid h
  clear h hfit
  by_cases h1:1≤p
  ·have d1:decide (p<1)=false:=by simp;omega
   have d2:decide ((65536:Int)<p)=true:=by simp;omega
   clear hp h1 hs hnum hnf
   go_enter Tryz.func40,Tryz.ntmps40
   go_wp2_with fail
   go_ret
   refine ⟨rfl,b,m1,m2,HL.out.below ?_,Turn.below _ ?_⟩ <;> exact ((((Below.refl _ _).alloc (Nat.le_refl _) _).alloc (by simp) _).alloc (by simp;omega) _).alloc (by simp;omega) _
  ·have d1:decide (p<1)=true:=by simp;omega
   clear hp h1 hs hnum hnf
   go_enter Tryz.func40,Tryz.ntmps40
   go_wp2_with fail
   go_ret
   refine ⟨rfl,b,m1,m2,HL.out.below ?_,Turn.below _ ?_⟩ <;> exact ((((Below.refl _ _).alloc (Nat.le_refl _) _).alloc (by simp) _).alloc (by simp;omega) _).alloc (by simp;omega) _
end Go.Proofs.YtjihboddejaelaaGreat
