/-
  Checkpoint of package wal: what it hands on to done; what a round of its loop keeps.
-/
import Derived.Test.YtjihboddejaelaaGreatPr8
import Derived.Test.YtjihboddejaelaaGreatPr9
set_option linter.unusedVariables false
set_option linter.unusedSimpArgs false
namespace Go.Proofs.YtjihboddejaelaaGreat
open Go.RowKit
open Go.BigFrame
open Go.Maps
set_option maxRecDepth 100000 in
set_option maxHeartbeats 1600000 in
theorem wal_Checkpoint1 (b:List (Option Nat)) (gd g m1 m2:Nat) (R:Rw) (bl:Nat) (w:World) (h:LR w b gd g m1 m2 R) (hx:Has w bl 97 #[.pointer (some ⟨g,0,none⟩)]) (hfit:Fit R.D 1) (hp:R.np≤4294967296) :
 Calls Tryz.prog 174 #[.pointer (some ⟨bl,0,none⟩)] w (DPost w b gd (R.D.cutD 0 (R.np*1024:Nat)) (.int .i64 (R.D.cutE 0 (R.np*1024:Nat)))):=by
 have hd:=(Below.refl w.heap.size w).drew
 have TP:=Lib.hid (disk_Cut gd R.D b 0 (R.np*1024:Nat) w.drew (h.disk.below hd) hfit.ok (by have:=hfit.count;omega) (by have:=hfit.waits;omega))
 obtain ⟨E,hE⟩:∃ x,R.D.cutE 0 (R.np*1024:Nat)=x:=⟨_,rfl⟩
 obtain ⟨D',hD⟩:∃ x,R.D.cutD 0 (R.np*1024:Nat)=x:=⟨_,rfl⟩
 rw [hE,hD] at TP ⊢
 rw [show ((R.np*1024:Nat):Int)=IntKind.i64.wrap ((R.np:Int)*1024) from (Int.natCast_mul _ _).trans (IntWalk.i64_in _ (by omega)).symm] at TP
 have x0:=hx.cell 0
 have x1:=h.cell0
 have x2:w.cell? ⟨g,2,none⟩=some (.int .i64 R.np):=h.has.cell 2
 have gz:=h.has.lt
 have HB:=Lib.hid (Turn.below b hd)
 clear hE hD h hx hfit hp hd
 go_enter Tryz.func174,Tryz.ntmps174
 go_wp2_with fail
 go_region_with
  (go_at_call 175;(with_reducible refine TP.out.mono ?_);rintro e w2 ⟨rfl,hd2⟩;have HD:=Lib.hid hd2;clear hd2)
 all_goals
  go_wp2_with fail
  go_ret
  obtain ⟨b',q1,q2⟩:=HD.out
  exact ⟨rfl,b',q1,HB.out.trans q2⟩
set_option maxRecDepth 100000 in
set_option maxHeartbeats 1600000 in
theorem wal_Checkpoint3 (b:List (Option Nat)) (gd g m1 m2:Nat) (R:Rw) (bl:Nat) (w:World) (h:LR w b gd g m1 m2 R) (hl:Has w bl 97 #[.pointer (some ⟨g,0,none⟩)]) (hfit:Fit R.D 2) (hs:R.slot<2) (hnum:R.number<4) (hp:R.np≤4611686018427387904) :
 Calls Tryz.prog 177 #[.pointer (some ⟨bl,0,none⟩)] w (LinkPost w b gd g m1 m2 (R.tell 0 R.np) (R.tellE 0 R.np)):=by
 have hd:=(Below.refl w.heap.size w).drew
 have TP:=Lib.hid (wal_tell b gd g m1 m2 R 0 R.np w.drew (h.below hd) hfit hs hnum (by omega) hp)
 rw [show ((0:Nat):Int)=0 from rfl] at TP
 obtain ⟨E,hE⟩:∃ x,R.tellE 0 R.np=x:=⟨_,rfl⟩
 rw [hE] at TP ⊢
 have x0:=hl.cell 0
 have x2:w.cell? ⟨g,2,none⟩=some (.int .i64 R.np):=h.has.cell 2
 have gz:=h.has.lt
 have HB:=Lib.hid (Turn.below (b++lb g m1 m2) hd)
 clear hE h hl hfit hd
 go_enter Tryz.func177,Tryz.ntmps177
 go_wp2_with fail
 go_region_with
  (go_at_call 121;(with_reducible refine TP.out.mono ?_);rintro e w2 ⟨rfl,hd2⟩;have HD:=Lib.hid hd2;clear hd2)
 all_goals
  go_wp2_with fail
  go_ret
  obtain ⟨b',q1,q2⟩:=HD.out
  exact ⟨rfl,b',q1,HB.out.trans q2⟩
theorem enter_Checkpoint1 (cs:Array Value) (u:World):(callFunc 174 cs).run Tryz.prog u = .ok (.enter 174 cs) u:=by kernel_rfl
theorem enter_Checkpoint2 (cs:Array Value) (u:World):(callFunc 176 cs).run Tryz.prog u = .ok (.enter 176 cs) u:=by kernel_rfl
theorem enter_Checkpoint3 (cs:Array Value) (u:World):(callFunc 177 cs).run Tryz.prog u = .ok (.enter 177 cs) u:=by kernel_rfl
def checkFs (N:Nat):List (FuncId×Array Value):=[(174,#[.pointer (some ⟨N,0,none⟩)]),(176,#[.pointer (some ⟨N,0,none⟩)]),(177,#[.pointer (some ⟨N,0,none⟩)])]
def checkXs (gs N g:Nat):List (Nat×TypeId×Array Value) :=
 [(gs,50,((checkFs N).map (fun x=>Value.func (.func x.1) #[] x.2)).toArray),(N,97,#[.pointer (some ⟨g,0,none⟩)])]
theorem checkBox_of {u:World} {gs N g:Nat} (h:Boxes u (checkXs gs N g)):Has u N 97 #[.pointer (some ⟨g,0,none⟩)]:=h (N,_,_) (by simp [checkXs])
set_option maxRecDepth 100000 in
theorem wal_checkChain (b b0:List (Option Nat)) (gd g m1 m2 N:Nat) (R:Rw) (w0 w:World) (h:LR w b gd g m1 m2 R) (hfit:Fit R.D 4) (hs:R.slot<2) (hnum:R.number<4) (hp:R.np≤4294967296)
 (hx:Has w N 97 #[.pointer (some ⟨g,0,none⟩)]) (hN:some N∉b++lb g m1 m2) (ht:Turn (b0++lb g m1 m2) (b++lb g m1 m2) w0 w) :
 Calls Tryz.prog 116 #[.slice (some ⟨w.heap.size,0,none⟩) 3 3] (w.alloc (.cells ((checkFs N).map (fun x=>Value.func (.func x.1) #[] x.2)).toArray 50)) fun e w'=>e = .returned (.int .i64 (upTo (checkEs R R.np) 3).2)∧Held w0 b0 gd g m1 m2 (checkXs w.heap.size N g) (checkR R R.np (upTo (checkEs R R.np) 3).1) w':=by
 have hb:=(Below.refl w.heap.size w).alloc (Nat.le_refl _) (.cells ((checkFs N).map (fun x=>Value.func (.func x.1) #[] x.2)).toArray 50)
 refine wal_chain (checkFs N) w.heap.size 3 w0 b0 gd g m1 m2 _ (checkR R R.np) (checkEs R R.np) 50 _ rfl (by omega) (by simp [checkXs]) ⟨b,h.below hb, ?_, ?_,ht.trans (Turn.below _ hb)⟩ ?_ ?_
 ·intro x hx2
  simp only [checkXs,List.mem_cons,List.not_mem_nil,or_false] at hx2
  rcases hx2 with rfl | rfl
  ·exact Has.new _ _ _
  ·exact hx.alloc _
 ·intro x hx2 h2
  have h3:=h.lt h2
  simp only [checkXs,List.mem_cons,List.not_mem_nil,or_false] at hx2
  rcases hx2 with rfl | rfl
  ·simp only at h3;omega
  ·exact hN h2
 ·intro i k cs hi u
  have h4:i<3:=(List.getElem?_eq_some_iff.1 hi).1
  obtain rfl | rfl | rfl:i=0∨i=1∨i=2:=by omega
  ·cases hi;exact enter_Checkpoint1 _ _
  ·cases hi;exact enter_Checkpoint2 _ _
  ·cases hi;exact enter_Checkpoint3 _ _
 ·intro i k cs hi u b' hl hx2 ho hu
  have h4:i<3:=(List.getElem?_eq_some_iff.1 hi).1
  have hB:=checkBox_of hx2
  have f1:Fit (R.D.cutD 0 (R.np*1024:Nat)) 3:=hfit.cut _ _
  have f2:Fit ((R.D.cutD 0 (R.np*1024:Nat)).sync 0) 2:=f1.sync _
  obtain rfl | rfl | rfl:i=0∨i=1∨i=2:=by omega
  ·cases hi
   exact (wal_Checkpoint1 b' gd g m1 m2 R _ u hl hB (hfit.less (by omega)) hp).mono fun e w' hp=>LinkPost.ofDisk (R:=R) hl hp
  ·cases hi
   exact (wal_Checkpoint2 b' gd g m1 m2 _ _ u hl hB (f1.less (by omega))).mono fun e w' hp=>LinkPost.ofDisk (R:={ R with D:=R.D.cutD 0 (R.np*1024:Nat) }) hl hp
  ·cases hi
   exact wal_Checkpoint3 b' gd g m1 m2 { R with D:=(R.D.cutD 0 (R.np*1024:Nat)).sync 0 } _ u hl hB f2 hs hnum (show R.np≤_ by omega)
theorem readS_size {D:Dk} (hok:D.ok) {f a n:Int} (hf:0≤f∧f<2):(D.readS f a n).size≤67108864:=by
 unfold Dk.readS
 split
 ·rw [bsOf_size,List.length_take,List.length_drop]
  have:=hok.seen f.toNat
  omega
 ·exact Nat.zero_le _
theorem rwreadS_size {R:Rw} (hok:R.D.ok) (n:Int):(R.readS n).size≤67108864:=by
 unfold Rw.readS
 split
 ·split
  ·exact readS_size hok (by omega)
  ·split
   ·exact Nat.zero_le _
   ·split
    ·exact Nat.zero_le _
    ·exact readS_size hok (by omega)
 ·exact Nat.zero_le _
theorem put1_fit {M:Rw} {m:Nat} (h:Fit M.D (70000-min m 65537)):Fit (M.put1 m).D (70000-min (m+1) 65537):=by
 unfold Rw.put1
 split
 ·exact h.less (by omega)
 ·split
  ·exact h.less (by omega)
  ·by_cases hm:m<65537
   ·have h2:Fit M.D ((70000-min (m+1) 65537)+1):=h.less (by omega)
    exact h2.write _ _ _
   ·show Fit (M.D.write 0 (m*1024:Nat) (M.readS m)) _
    have hF:¬ fitsF 0 (m*1024:Nat) (M.readS m).size:=by unfold fitsF;omega
    unfold Dk.write;rw [if_neg hF];exact h.less (by omega)
end Go.Proofs.YtjihboddejaelaaGreat
