/-
  tell of package wal: what it hands on to done.
-/
import Derived.Test.YtjihboddejaelaaGreatPr4
import Derived.Deep.RegionHeld3
set_option linter.unusedVariables false
set_option linter.unusedSimpArgs false
namespace Go.Proofs.YtjihboddejaelaaGreat
open Go.RowKit
open Go.BigFrame
open Go.Maps
structure Fit (D:Dk) (k:Nat):Prop where
 ok:D.ok
 count:D.count+k≤4000000000000000000
 waits:D.waits.length+k≤1000000000
structure TellBox (w:World) (g bl bs bn bf bp:Nat) (slot n f p:Nat):Prop where
 l:Has w bl 97 #[.pointer (some ⟨g,0,none⟩)]
 s:Has w bs 3 #[.int .i64 slot]
 n:Has w bn 3 #[.int .i64 n]
 f:Has w bf 3 #[.int .i64 f]
 p:Has w bp 3 #[.int .i64 p]
theorem TellBox.below {w w':World} {g bl bs bn bf bp slot n f p:Nat} (h:TellBox w g bl bs bn bf bp slot n f p) (hb:Below w.heap.size w w'):TellBox w' g bl bs bn bf bp slot n f p :=
 ⟨h.l.belowS hb,h.s.belowS hb,h.n.belowS hb,h.f.belowS hb,h.p.belowS hb⟩
theorem TellBox.cells {w:World} {g bl bs bn bf bp slot n f p:Nat} (h:TellBox w g bl bs bn bf bp slot n f p) :
 w.cell? ⟨bl,0,none⟩=some (.pointer (some ⟨g,0,none⟩))∧w.cell? ⟨bs,0,none⟩=some (.int .i64 slot)∧w.cell? ⟨bn,0,none⟩=some (.int .i64 n)∧w.cell? ⟨bf,0,none⟩=some (.int .i64 f)∧w.cell? ⟨bp,0,none⟩=some (.int .i64 p) :=
 ⟨h.l.cell 0,h.s.cell 0,h.n.cell 0,h.f.cell 0,h.p.cell 0⟩
def boxOff (bl bs bn bf bp:Nat) (b:List (Option Nat)):Prop:=some bl∉b∧some bs∉b∧some bn∉b∧some bf∉b∧some bp∉b
theorem TellBox.turn {w w':World} {b b':List (Option Nat)} {g bl bs bn bf bp slot n f p:Nat} (h:TellBox w g bl bs bn bf bp slot n f p) (ht:Turn b b' w w') (ho:boxOff bl bs bn bf bp b):TellBox w' g bl bs bn bf bp slot n f p :=
 ⟨h.l.turn ht ho.1,h.s.turn ht ho.2.1,h.n.turn ht ho.2.2.1,h.f.turn ht ho.2.2.2.1,h.p.turn ht ho.2.2.2.2⟩
theorem LR.cell0 {w:World} {b:List (Option Nat)} {gd g m1 m2:Nat} {R:Rw} (h:LR w b gd g m1 m2 R):w.cell? ⟨g,0,none⟩=some (.pointer (some ⟨gd,0,none⟩)):=h.has.cell 0
set_option maxRecDepth 100000 in
set_option maxHeartbeats 3200000 in
theorem wal_tell1 (b:List (Option Nat)) (gd g m1 m2:Nat) (R:Rw) (bl bs bn bf bp slot n f p:Nat) (w:World) (h:LR w b gd g m1 m2 R) (hx:TellBox w g bl bs bn bf bp slot n f p) (ho:boxOff bl bs bn bf bp b) (hfit:Fit R.D 1) (hs:slot<2) (hn:n≤4611686018427387904) (hf:f≤4611686018427387904) (hp:p≤4611686018427387904) :
 Calls Tryz.prog 190 #[.pointer (some ⟨bl,0,none⟩),.pointer (some ⟨bs,0,none⟩),.pointer (some ⟨bn,0,none⟩),.pointer (some ⟨bf,0,none⟩),.pointer (some ⟨bp,0,none⟩)] w
  (DPost w b gd (R.D.write 1 (16+24*slot:Nat) (bsOf (slotL n f p))) (.int .i64 (R.D.writeE 1 (16+24*slot:Nat) (bsOf (slotL n f p))))):=by
 have ST:=Lib.hid (wal_slotText n f p hn hf hp)
 have TP:=Lib.hid (fun b1 w1 (h1:DP w1 b1 gd R.D)=>disk_Write gd R.D b1 1 (16+24*slot:Nat) (bsOf (slotL n f p)) w1 h1 hfit.ok (by have:=hfit.count;omega) (by have:=hfit.waits;omega) (by rw [bsOf_size,slotL_len];omega))
 obtain ⟨S,hS⟩:∃ S,bsOf (slotL n f p)=S:=⟨_,rfl⟩
 rw [hS] at ST TP ⊢
 obtain ⟨E,hE⟩:∃ x,R.D.writeE 1 (16+24*slot:Nat) S=x:=⟨_,rfl⟩
 obtain ⟨D',hD⟩:∃ x,R.D.write 1 (16+24*slot:Nat) S=x:=⟨_,rfl⟩
 rw [hE,hD] at TP ⊢
 have HL:=Lib.hid (h.below (Below.refl _ _).drew)
 have HX:=Lib.hid (hx.below (Below.refl _ _).drew)
 have HB:=Lib.hid ((Below.refl w.heap.size w).drew)
 obtain ⟨x0,x1,x2,x3,x4⟩:=hx.cells
 have x5:=h.cell0
 have HO:=Lib.hid ho
 clear hS hE hD h hx hfit ho
 obtain rfl | rfl:slot=0∨slot=1:=by omega
 ·rw [show ((0:Nat):Int)=0 from rfl] at x1
  rw [show (((16+24*0:Nat)):Int)=IntKind.i64.wrap (16+IntKind.i64.wrap 0) by decide] at TP
  go_enter Tryz.func190,Tryz.ntmps190
  go_wp2_with fail
  go_region_held3 (fun w'=>w'.cell? ⟨bl,0,none⟩=some (.pointer (some ⟨g,0,none⟩))∧w'.cell? ⟨bs,0,none⟩=some (.int .i64 0)∧w'.cell? ⟨bn,0,none⟩=some (.int .i64 n)∧w'.cell? ⟨bf,0,none⟩=some (.int .i64 f)∧w'.cell? ⟨bp,0,none⟩=some (.int .i64 p)∧w'.cell? ⟨g,0,none⟩=some (.pointer (some ⟨gd,0,none⟩))) (first | exact ⟨z0,z1,z2,z3,z4,z5⟩ | exact ⟨y0,y1,y2,y3,y4,y5⟩ | go_keep)
   (first | (go_at_call 187;(with_reducible refine (ST.out _).mono ?_);rintro e w1 ⟨rfl,hb1⟩;have H1:=Lib.hid (HL.out.below hb1);have HB1:=Lib.hid (bel_step HB.out hb1 HB.out.size);obtain ⟨y0,y1,y2,y3,y4⟩:=(HX.out.below hb1).cells;have y5:=H1.out.cell0) | (go_at_call 172;(with_reducible refine (TP.out _ _ H1.out.disk).mono ?_);rintro e w2 ⟨rfl,b2,hd2,ht2⟩;have HD:=Lib.hid hd2;have HT:=Lib.hid ht2;obtain ⟨z0,z1,z2,z3,z4⟩:=((HX.out.below hb1).turn ht2 HO.out).cells;have z5:=(H1.out.onDisk hd2 ht2).1.cell0;clear hd2 ht2 hb1))
  go_wp2_with fail
  go_ret
  exact ⟨rfl,b2,HD.out,(Turn.below b HB1.out).trans HT.out⟩
 ·rw [show ((1:Nat):Int)=1 from rfl] at x1
  rw [show (((16+24*1:Nat)):Int)=IntKind.i64.wrap (16+IntKind.i64.wrap 24) by decide] at TP
  go_enter Tryz.func190,Tryz.ntmps190
  go_wp2_with fail
  go_region_held3 (fun w'=>w'.cell? ⟨bl,0,none⟩=some (.pointer (some ⟨g,0,none⟩))∧w'.cell? ⟨bs,0,none⟩=some (.int .i64 1)∧w'.cell? ⟨bn,0,none⟩=some (.int .i64 n)∧w'.cell? ⟨bf,0,none⟩=some (.int .i64 f)∧w'.cell? ⟨bp,0,none⟩=some (.int .i64 p)∧w'.cell? ⟨g,0,none⟩=some (.pointer (some ⟨gd,0,none⟩))) (first | exact ⟨z0,z1,z2,z3,z4,z5⟩ | exact ⟨y0,y1,y2,y3,y4,y5⟩ | go_keep)
   (first | (go_at_call 187;(with_reducible refine (ST.out _).mono ?_);rintro e w1 ⟨rfl,hb1⟩;have H1:=Lib.hid (HL.out.below hb1);have HB1:=Lib.hid (bel_step HB.out hb1 HB.out.size);obtain ⟨y0,y1,y2,y3,y4⟩:=(HX.out.below hb1).cells;have y5:=H1.out.cell0) | (go_at_call 172;(with_reducible refine (TP.out _ _ H1.out.disk).mono ?_);rintro e w2 ⟨rfl,b2,hd2,ht2⟩;have HD:=Lib.hid hd2;have HT:=Lib.hid ht2;obtain ⟨z0,z1,z2,z3,z4⟩:=((HX.out.below hb1).turn ht2 HO.out).cells;have z5:=(H1.out.onDisk hd2 ht2).1.cell0;clear hd2 ht2 hb1))
  go_wp2_with fail
  go_ret
  exact ⟨rfl,b2,HD.out,(Turn.below b HB1.out).trans HT.out⟩
set_option maxRecDepth 100000 in
set_option maxHeartbeats 800000 in
theorem wal_tell2 (b:List (Option Nat)) (gd g m1 m2:Nat) (R:Rw) (bl:Nat) (w:World) (h:LR w b gd g m1 m2 R) (hx:Has w bl 97 #[.pointer (some ⟨g,0,none⟩)]) (hfit:Fit R.D 1) :
 Calls Tryz.prog 191 #[.pointer (some ⟨bl,0,none⟩)] w (DPost w b gd (R.D.sync 1) (.int .i64 (R.D.syncE 1))):=by
 have TP:=Lib.hid (fun b1 w1 (h1:DP w1 b1 gd R.D)=>disk_Sync gd R.D b1 1 w1 h1 hfit.ok (by have:=hfit.count;omega) (by have:=hfit.waits;omega))
 obtain ⟨E,hE⟩:∃ x,R.D.syncE 1=x:=⟨_,rfl⟩
 obtain ⟨D',hD⟩:∃ x,R.D.sync 1=x:=⟨_,rfl⟩
 rw [hE,hD] at TP ⊢
 have HL:=Lib.hid h
 have x0:=hx.cell 0
 have x1:=h.cell0
 clear hE hD h hx hfit
 go_enter Tryz.func191,Tryz.ntmps191
 go_wp2_with (go_at_call 119;(with_reducible refine (TP.out _ _ HL.out.disk).mono ?_);rintro e w2 ⟨rfl,hd2⟩;have HD:=Lib.hid hd2;clear hd2)
 go_ret
 exact ⟨rfl,HD.out⟩
set_option maxRecDepth 100000 in
set_option maxHeartbeats 800000 in
theorem wal_Commit2 (b:List (Option Nat)) (gd g m1 m2:Nat) (R:Rw) (bl:Nat) (w:World) (h:LR w b gd g m1 m2 R) (hx:Has w bl 97 #[.pointer (some ⟨g,0,none⟩)]) (hfit:Fit R.D 1) :
 Calls Tryz.prog 118 #[.pointer (some ⟨bl,0,none⟩)] w (DPost w b gd (R.D.sync 1) (.int .i64 (R.D.syncE 1))):=by
 have TP:=Lib.hid (fun b1 w1 (h1:DP w1 b1 gd R.D)=>disk_Sync gd R.D b1 1 w1 h1 hfit.ok (by have:=hfit.count;omega) (by have:=hfit.waits;omega))
 obtain ⟨E,hE⟩:∃ x,R.D.syncE 1=x:=⟨_,rfl⟩
 obtain ⟨D',hD⟩:∃ x,R.D.sync 1=x:=⟨_,rfl⟩
 rw [hE,hD] at TP ⊢
 have HL:=Lib.hid h
 have x0:=hx.cell 0
 have x1:=h.cell0
 clear hE hD h hx hfit
 go_enter Tryz.func118,Tryz.ntmps118
 go_wp2_with (go_at_call 119;(with_reducible refine (TP.out _ _ HL.out.disk).mono ?_);rintro e w2 ⟨rfl,hd2⟩;have HD:=Lib.hid hd2;clear hd2)
 go_ret
 exact ⟨rfl,HD.out⟩
set_option maxRecDepth 100000 in
set_option maxHeartbeats 800000 in
theorem wal_Checkpoint2 (b:List (Option Nat)) (gd g m1 m2:Nat) (R:Rw) (bl:Nat) (w:World) (h:LR w b gd g m1 m2 R) (hx:Has w bl 97 #[.pointer (some ⟨g,0,none⟩)]) (hfit:Fit R.D 1) :
 Calls Tryz.prog 176 #[.pointer (some ⟨bl,0,none⟩)] w (DPost w b gd (R.D.sync 0) (.int .i64 (R.D.syncE 0))):=by
 have TP:=Lib.hid (fun b1 w1 (h1:DP w1 b1 gd R.D)=>disk_Sync gd R.D b1 0 w1 h1 hfit.ok (by have:=hfit.count;omega) (by have:=hfit.waits;omega))
 obtain ⟨E,hE⟩:∃ x,R.D.syncE 0=x:=⟨_,rfl⟩
 obtain ⟨D',hD⟩:∃ x,R.D.sync 0=x:=⟨_,rfl⟩
 rw [hE,hD] at TP ⊢
 have HL:=Lib.hid h
 have x0:=hx.cell 0
 have x1:=h.cell0
 clear hE hD h hx hfit
 go_enter Tryz.func176,Tryz.ntmps176
 go_wp2_with (go_at_call 119;(with_reducible refine (TP.out _ _ HL.out.disk).mono ?_);rintro e w2 ⟨rfl,hd2⟩;have HD:=Lib.hid hd2;clear hd2)
 go_ret
 exact ⟨rfl,HD.out⟩
end Go.Proofs.YtjihboddejaelaaGreat
namespace Go.Proofs.YtjihboddejaelaaGreat
open Go.RowKit
open Go.BigFrame
open Go.Maps
def Boxes (u:World) (xs:List (Nat×TypeId×Array Value)):Prop:=∀ x∈xs,Has u x.1 x.2.1 x.2.2
def Off (xs:List (Nat×TypeId×Array Value)) (b:List (Option Nat)):Prop:=∀ x∈xs,some x.1∉b
theorem Boxes.turn {u u':World} {xs:List (Nat×TypeId×Array Value)} {b b':List (Option Nat)} (h:Boxes u xs) (ht:Turn b b' u u') (ho:Off xs b):Boxes u' xs∧Off xs b' :=
 ⟨fun x hx=>(h x hx).turn ht (ho x hx),fun x hx h2=>by
   rcases ht.new x.1 h2 with h3 | h3
   ·exact ho x hx h3
   ·have:=(h x hx).lt;omega⟩
theorem Boxes.below {u u':World} {xs:List (Nat×TypeId×Array Value)} (h:Boxes u xs) (hb:Below u.heap.size u u'):Boxes u' xs:=fun x hx=>(h x hx).belowS hb
def upTo (Es:Nat→Int):Nat→Nat×Int
 | 0=>(0,0)
 | n+1=>if (upTo Es n).2≠0 then upTo Es n else (n+1,Es n)
theorem upTo_stop {Es:Nat→Int} {i n:Nat} (hi:(upTo Es i).2≠0) (h:i≤n):upTo Es n=upTo Es i:=by
 induction n with
 | zero=>rw [show i=0 by omega]
 | succ n ih =>
   rcases Nat.lt_or_ge n i with h2 | h2
   ·rw [show i=n+1 by omega]
   ·have e:=ih h2
    rw [upTo,if_pos (by rw [e];exact hi),e]
theorem upTo_next {Es:Nat→Int} {i:Nat} (hi:upTo Es i=(i,0)):upTo Es (i+1)=(i+1,Es i):=by
 rw [upTo,if_neg (by rw [hi];simp)]
def Held (w0:World) (b0:List (Option Nat)) (gd g m1 m2:Nat) (xs:List (Nat×TypeId×Array Value)) (R:Rw) (u:World):Prop :=
 ∃ b',LR u b' gd g m1 m2 R∧Boxes u xs∧Off xs (b'++lb g m1 m2)∧Turn (b0++lb g m1 m2) (b'++lb g m1 m2) w0 u
def LinkPost (u:World) (b:List (Option Nat)) (gd g m1 m2:Nat) (R':Rw) (E:Int) (e:Ending) (w':World):Prop :=
 e = .returned (.int .i64 E)∧∃ b',LR w' b' gd g m1 m2 R'∧Turn (b++lb g m1 m2) (b'++lb g m1 m2) u w'
theorem LinkPost.ofDisk {u:World} {b:List (Option Nat)} {gd g m1 m2:Nat} {R:Rw} {D':Dk} {E:Int} {e:Ending} {w':World} (h:LR u b gd g m1 m2 R) (hp:DPost u b gd D' (.int .i64 E) e w'):LinkPost u b gd g m1 m2 { R with D:=D' } E e w':=by
 obtain ⟨he,b',hd,ht⟩:=hp
 obtain ⟨h1,h2⟩:=h.onDisk hd ht
 exact ⟨he,b',h1,h2⟩
theorem wal_chain (fs:List (FuncId×Array Value)) (gs n:Nat) (w0:World) (b0:List (Option Nat)) (gd g m1 m2:Nat) (xs:List (Nat×TypeId×Array Value)) (Rs:Nat→Rw) (Es:Nat→Int) (t:TypeId) (w:World)
 (hn:fs.length=n) (hn4:n≤4) (hgs:(gs,t,(fs.map (fun x=>Value.func (.func x.1) #[] x.2)).toArray)∈xs) (h0:Held w0 b0 gd g m1 m2 xs (Rs 0) w)
 (hrun:∀ (i:Nat) k cs,fs[i]? = some (k,cs)→∀ u,(callFunc k cs).run Tryz.prog u = .ok (.enter k cs) u)
 (hstep:∀ (i:Nat) k cs,fs[i]? = some (k,cs)→∀ u b',LR u b' gd g m1 m2 (Rs i)→Boxes u xs→Off xs (b'++lb g m1 m2)→upTo Es i=(i,0)→Calls Tryz.prog k cs u (LinkPost u b' gd g m1 m2 (Rs (i+1)) (Es i))) :
 Calls Tryz.prog 116 #[.slice (some ⟨gs,0,none⟩) n n] w fun e w'=>e = .returned (.int .i64 (upTo Es n).2)∧Held w0 b0 gd g m1 m2 xs (Rs (upTo Es n).1) w':=by
 refine (wal_done fs gs n w (fun i u=>i≤n∧upTo Es i=(i,0)∧Held w0 b0 gd g m1 m2 xs (Rs i) u) (fun r u=>r=(upTo Es n).2∧Held w0 b0 gd g m1 m2 xs (Rs (upTo Es n).1) u) hn hn4 ?_ hrun ?_ ?_ ⟨Nat.zero_le _,rfl,h0⟩).mono ?_
 ·rintro i u ⟨_,_,b',_,hx,_,_⟩ j k cs hj
  have:=(hx _ hgs).cell j
  simp only at this
  rw [this]
  simp [hj]
 ·rintro i k cs hi u ⟨hin,hu,b',hl,hx,ho,ht⟩
  have hlt:i<n:=by
   have:=(List.getElem?_eq_some_iff.1 hi).1
   omega
  refine (hstep i k cs hi u b' hl hx ho hu).mono ?_
  rintro e w' ⟨rfl,b'',hl2,ht2⟩
  obtain ⟨hx2,ho2⟩:=hx.turn ht2 ho
  have hH:Held w0 b0 gd g m1 m2 xs (Rs (i+1)) w':=⟨b'',hl2,hx2,ho2,ht.trans ht2⟩
  have hu2:=upTo_next hu
  refine ⟨Es i,rfl, ?_⟩
  by_cases hz:Es i=0
  ·exact .inl ⟨hz,hlt,by rw [hu2,hz],hH⟩
  ·have e2:upTo Es n=(i+1,Es i):=by
    rw [← hu2]
    exact upTo_stop (by rw [hu2];exact hz) hlt
   exact .inr ⟨hz,by rw [e2],by rw [e2];exact hH⟩
 ·rintro u ⟨_,hu,hH⟩
  rw [hu];exact ⟨rfl,hH⟩
 ·rintro e w' ⟨r,rfl,rfl,hH⟩
  exact ⟨rfl,hH⟩
end Go.Proofs.YtjihboddejaelaaGreat
namespace Go.Proofs.YtjihboddejaelaaGreat
open Go.RowKit
open Go.BigFrame
open Go.Maps
def Rw.tellD (R:Rw) (f p:Nat):Dk:=R.D.write 1 (16+24*(1-R.slot):Nat) (bsOf (slotL (R.number % 3+1) f p))
def Rw.tellW (R:Rw) (f p:Nat):Int:=R.D.writeE 1 (16+24*(1-R.slot):Nat) (bsOf (slotL (R.number % 3+1) f p))
def Rw.tell (R:Rw) (f p:Nat):Rw :=
 if R.tellW f p≠0 then { R with D:=R.tellD f p }
 else if (R.tellD f p).syncE 1≠0 then { R with D:=(R.tellD f p).sync 1 }
 else { R with D:=(R.tellD f p).sync 1,slot:=1-R.slot,number:=R.number % 3+1 }
def Rw.tellE (R:Rw) (f p:Nat):Int:=if R.tellW f p≠0 then R.tellW f p else (R.tellD f p).syncE 1
def tellR (R:Rw) (f p:Nat):Nat→Rw
 | 0=>R
 | 1=>{ R with D:=R.tellD f p }
 | _=>{ R with D:=(R.tellD f p).sync 1 }
def tellEs (R:Rw) (f p:Nat):Nat→Int
 | 0=>R.tellW f p
 | _=>(R.tellD f p).syncE 1
theorem tell_up (R:Rw) (f p:Nat):(upTo (tellEs R f p) 2).2=R.tellE f p:=by
 unfold Rw.tellE
 by_cases h:R.tellW f p=0
 ·rw [if_neg (by simpa using h)]
  have e:upTo (tellEs R f p) 1=(1,0):=by rw [upTo_next rfl];show (0+1,R.tellW f p)=_;rw [h]
  rw [upTo_next e];rfl
 ·rw [if_pos h]
  have e:upTo (tellEs R f p) 1=(1,R.tellW f p):=upTo_next rfl
  rw [upTo_stop (i:=1) (by rw [e];exact h) (by omega),e]
theorem tell_bad (R:Rw) (f p:Nat) (hx:R.tellE f p≠0):R.tell f p=tellR R f p (upTo (tellEs R f p) 2).1:=by
 unfold Rw.tellE at hx
 unfold Rw.tell
 by_cases h:R.tellW f p=0
 ·rw [if_neg (by simpa using h)] at hx ⊢
  have e:upTo (tellEs R f p) 1=(1,0):=by rw [upTo_next rfl];show (0+1,R.tellW f p)=_;rw [h]
  rw [upTo_next e,if_pos hx];rfl
 ·rw [if_pos h]
  have e:upTo (tellEs R f p) 1=(1,R.tellW f p):=upTo_next rfl
  rw [upTo_stop (i:=1) (by rw [e];exact h) (by omega),e];rfl
theorem tell_good (R:Rw) (f p:Nat) (hx:R.tellE f p=0):R.tell f p={ tellR R f p 2 with slot:=1-R.slot,number:=R.number % 3+1 }∧(upTo (tellEs R f p) 2).1=2:=by
 unfold Rw.tellE at hx
 unfold Rw.tell
 by_cases h:R.tellW f p=0
 ·rw [if_neg (by simpa using h)] at hx ⊢
  have e:upTo (tellEs R f p) 1=(1,0):=by rw [upTo_next rfl];show (0+1,R.tellW f p)=_;rw [h]
  rw [upTo_next e,if_neg (by simpa using hx)];exact ⟨rfl,rfl⟩
 ·rw [if_pos h] at hx;exact absurd hx h
theorem enter_tell1 (cs:Array Value) (u:World):(callFunc 190 cs).run Tryz.prog u = .ok (.enter 190 cs) u:=by kernel_rfl
theorem enter_tell2 (cs:Array Value) (u:World):(callFunc 191 cs).run Tryz.prog u = .ok (.enter 191 cs) u:=by kernel_rfl
def tellFs (N bs bn:Nat):List (FuncId×Array Value):=[(190,#[.pointer (some ⟨N,0,none⟩),.pointer (some ⟨bs,0,none⟩),.pointer (some ⟨bn,0,none⟩),.pointer (some ⟨N+1,0,none⟩),.pointer (some ⟨N+1+1,0,none⟩)]),(191,#[.pointer (some ⟨N,0,none⟩)])]
def tellXs (gs N bs bn g slot n f p:Nat):List (Nat×TypeId×Array Value) :=
 [(gs,50,((tellFs N bs bn).map (fun x=>Value.func (.func x.1) #[] x.2)).toArray),(N,97,#[.pointer (some ⟨g,0,none⟩)]),(bs,3,#[.int .i64 slot]),(bn,3,#[.int .i64 n]),(N+1,3,#[.int .i64 f]),(N+1+1,3,#[.int .i64 p])]
theorem tellBox_of {u:World} {gs N bs bn g slot n f p:Nat} (h:Boxes u (tellXs gs N bs bn g slot n f p)):TellBox u g N bs bn (N+1) (N+1+1) slot n f p :=
 ⟨h (N,_,_) (by simp [tellXs]),h (bs,_,_) (by simp [tellXs]),h (bn,_,_) (by simp [tellXs]),h (N+1,_,_) (by simp [tellXs]),h (N+1+1,_,_) (by simp [tellXs])⟩
theorem boxOff_of {gs N bs bn g slot n f p:Nat} {b c:List (Option Nat)} (h:Off (tellXs gs N bs bn g slot n f p) (b++c)):boxOff N bs bn (N+1) (N+1+1) b :=
 ⟨fun h2=>h (N,97,#[.pointer (some ⟨g,0,none⟩)]) (by simp [tellXs]) (List.mem_append_left _ h2),fun h2=>h (bs,3,#[.int .i64 slot]) (by simp [tellXs]) (List.mem_append_left _ h2),fun h2=>h (bn,3,#[.int .i64 n]) (by simp [tellXs]) (List.mem_append_left _ h2),fun h2=>h (N+1,3,#[.int .i64 f]) (by simp [tellXs]) (List.mem_append_left _ h2),fun h2=>h (N+1+1,3,#[.int .i64 p]) (by simp [tellXs]) (List.mem_append_left _ h2)⟩
theorem Fit.less {D:Dk} {k m:Nat} (h:Fit D k) (hm:m≤k):Fit D m:=⟨h.ok,by have:=h.count;omega,by have:=h.waits;omega⟩
theorem turn_count (D:Dk):D.turn.count≤D.count+1:=by unfold Dk.turn;split <;> simp
theorem change_fit {D:Dk} {k:Nat} (h:Fit D (k+1)) {c:Ch} (hc:c.fits):Fit (D.change c) k:=by
 refine ⟨Dk.change_ok h.ok hc, ?_, ?_⟩
 ·have:=h.count;have:=turn_count D
  unfold Dk.change;split
  ·omega
  ·show D.turn.count+k≤_;omega
 ·have:=h.waits
  unfold Dk.change;split
  ·have:D.turn.waits=D.waits:=by unfold Dk.turn;split <;> rfl
   rw [this];omega
  ·show (D.waits++[c]).length+k≤_;rw [List.length_append];simp;omega
theorem Fit.write {D:Dk} {k:Nat} (h:Fit D (k+1)) (f a:Int) (s:ByteArray):Fit (D.write f a s) k:=by
 unfold Dk.write
 split
 ·rename_i hf
  obtain ⟨h1,h2,h3,h4,h5,h6⟩:=hf
  exact change_fit h ⟨by show f.toNat<2;omega,by show a.toNat≤_;omega,by show a.toNat+s.size≤_;omega,fun h=>by cases h⟩
 ·exact h.less (by omega)
theorem wal_tellChain (b:List (Option Nat)) (gd g m1 m2:Nat) (R:Rw) (f p gs bs bn:Nat) (w wc:World) (h:LR w b gd g m1 m2 R) (hfit:Fit R.D 2) (hs:R.slot<2) (hnum:R.number<4) (hf:f≤4611686018427387904) (hp:p≤4611686018427387904)
 (hb:Below w.heap.size w wc) (hx:Boxes wc (tellXs gs w.heap.size bs bn g (1-R.slot) (R.number % 3+1) f p)) (hbs:w.heap.size≤bs) (hbn:w.heap.size≤bn) (hgs:w.heap.size≤gs) :
 Calls Tryz.prog 116 #[.slice (some ⟨gs,0,none⟩) 2 2] wc fun e w'=>e = .returned (.int .i64 (R.tellE f p))∧Held w b gd g m1 m2 (tellXs gs w.heap.size bs bn g (1-R.slot) (R.number % 3+1) f p) (tellR R f p (upTo (tellEs R f p) 2).1) w':=by
 rw [← tell_up]
 refine wal_chain (tellFs w.heap.size bs bn) gs 2 w b gd g m1 m2 _ (tellR R f p) (tellEs R f p) 50 wc rfl (by omega) (by simp [tellXs]) ⟨b,h.below hb,hx, ?_,Turn.below _ hb⟩ ?_ ?_
 ·intro x hx2 h2
  have h3:=h.lt h2
  simp only [tellXs,List.mem_cons,List.not_mem_nil,or_false] at hx2
  rcases hx2 with rfl | rfl | rfl | rfl | rfl | rfl <;> simp only at h3 <;> omega
 ·intro i k cs hi u
  match i,hi with
  | 0,hi=>cases hi;exact enter_tell1 _ _
  | 1,hi=>cases hi;exact enter_tell2 _ _
 ·intro i k cs hi u b' hl hx2 ho hu
  match i,hi with
  | 0,hi =>
    cases hi
    exact (wal_tell1 b' gd g m1 m2 R _ bs bn _ _ (1-R.slot) (R.number % 3+1) f p u hl (tellBox_of hx2) (boxOff_of ho) (hfit.less (by omega)) (by omega) (by omega) hf hp).mono fun e w' hp=>LinkPost.ofDisk hl hp
  | 1,hi =>
    cases hi
    exact (wal_tell2 b' gd g m1 m2 _ _ u hl (tellBox_of hx2).l ((show Fit (R.D.write 1 (16+24*(1-R.slot):Nat) (bsOf (slotL (R.number % 3+1) f p))) 1 from hfit.write _ _ _))).mono fun e w' hp=>LinkPost.ofDisk (R:=tellR R f p 1) hl hp
set_option maxRecDepth 100000 in
set_option maxHeartbeats 3200000 in
theorem wal_tell (b:List (Option Nat)) (gd g m1 m2:Nat) (R:Rw) (f p:Nat) (w:World) (h:LR w b gd g m1 m2 R) (hfit:Fit R.D 2) (hs:R.slot<2) (hnum:R.number<4) (hf:f≤4611686018427387904) (hp:p≤4611686018427387904) :
 Calls Tryz.prog 121 #[.pointer (some ⟨g,0,none⟩),.int .i64 f,.int .i64 p] w (LinkPost w b gd g m1 m2 (R.tell f p) (R.tellE f p)):=by
 obtain ⟨E,hE⟩:∃ E,R.tellE f p=E:=⟨_,rfl⟩
 rw [hE]
 have EE:=Lib.hid hE
 clear hE
 have HL:=Lib.hid h
 have HF:=Lib.hid hfit
 have W3:=Lib.hid (show Has (((w.alloc (.cells #[.pointer (some ⟨g,0,none⟩)] 97)).alloc (.cells #[.int .i64 f] 3)).alloc (.cells #[.int .i64 p] 3)) w.heap.size 97 #[.pointer (some ⟨g,0,none⟩)] ∧
  Has (((w.alloc (.cells #[.pointer (some ⟨g,0,none⟩)] 97)).alloc (.cells #[.int .i64 f] 3)).alloc (.cells #[.int .i64 p] 3)) (w.heap.size+1) 3 #[.int .i64 f] ∧
  Has (((w.alloc (.cells #[.pointer (some ⟨g,0,none⟩)] 97)).alloc (.cells #[.int .i64 f] 3)).alloc (.cells #[.int .i64 p] 3)) (w.heap.size+2) 3 #[.int .i64 p] ∧
  Below w.heap.size w (((w.alloc (.cells #[.pointer (some ⟨g,0,none⟩)] 97)).alloc (.cells #[.int .i64 f] 3)).alloc (.cells #[.int .i64 p] 3)) ∧
  (((w.alloc (.cells #[.pointer (some ⟨g,0,none⟩)] 97)).alloc (.cells #[.int .i64 f] 3)).alloc (.cells #[.int .i64 p] 3)).heap.size=w.heap.size+3 by
  have a1:=Has.new w 97 #[.pointer (some ⟨g,0,none⟩)]
  have a2:=Has.new (w.alloc (.cells #[.pointer (some ⟨g,0,none⟩)] 97)) 3 #[.int .i64 f]
  have a3:=Has.new ((w.alloc (.cells #[.pointer (some ⟨g,0,none⟩)] 97)).alloc (.cells #[.int .i64 f] 3)) 3 #[.int .i64 p]
  rw [World.size_alloc] at a2
  rw [World.size_alloc,World.size_alloc] at a3
  exact ⟨(a1.alloc _).alloc _,a2.alloc _,a3,(((Below.refl _ _).alloc (Nat.le_refl _) _).alloc (by simp) _).alloc (by simp;omega) _,by simp⟩)
 clear h hfit
 go_enter Tryz.func121,Tryz.ntmps121
 go_upto_region 1 with fail
 generalize ((w.alloc (.cells #[.pointer (some ⟨g,0,none⟩)] 97)).alloc (.cells #[.int .i64 f] 3)).alloc (.cells #[.int .i64 p] 3)=W at *
 obtain ⟨hl,hbf,hbp,hbw,hsz⟩:=W3.out
 have HLL:=Lib.hid hl;have HBF:=Lib.hid hbf;have HBP:=Lib.hid hbp;have HBW:=Lib.hid hbw;have HSZ:=Lib.hid hsz
 have HLW:=Lib.hid (HL.out.below hbw)
 have c7:W.cell? ⟨g,7,none⟩=some (.int .i64 R.slot):=HLW.out.has.cell 7
 have c8:W.cell? ⟨g,8,none⟩=some (.int .i64 R.number):=HLW.out.has.cell 8
 have gz:=HLW.out.has.lt
 have cl:W.cell? ⟨w.heap.size,0,none⟩=some (.pointer (some ⟨g,0,none⟩)):=hl.cell 0
 have lz:=hl.lt
 clear hl hbf hbp hbw W3 hsz
 go_cut [7,8] (fun s7 s8 wx=>∃ bs bn,s7 = .pointer (some ⟨bs,0,none⟩)∧s8 = .pointer (some ⟨bn,0,none⟩)∧TellBox wx g w.heap.size bs bn (w.heap.size+1) (w.heap.size+2) (1-R.slot) (R.number % 3+1) f p∧Below W.heap.size W wx∧W.heap.size≤bs∧W.heap.size≤bn)
 case first =>
  have N1:=Lib.hid (show ((1-R.slot:Nat):Int)=1-(R.slot:Int)∧((R.number % 3+1:Nat):Int)=(R.number:Int) % 3+1 from ⟨by omega,by omega⟩)
  have A1:=Lib.hid (fun x y=>((Has.new W 3 #[x]).alloc (.cells #[y] 3)).drew)
  have A2:=Lib.hid (show ∀ x y,Has ((W.alloc (.cells #[x] 3)).alloc (.cells #[y] 3)).drew (W.heap.size+1) 3 #[y] from fun x y=>by
   have:=Has.new (W.alloc (.cells #[x] 3)) 3 #[y]
   rw [World.size_alloc] at this
   exact this.drew)
  have AB:=Lib.hid (fun x y=>(((Below.refl W.heap.size W).alloc (Nat.le_refl _) (.cells #[x] 3)).alloc (by simp) (.cells #[y] 3)).drew)
  go_region
  ·go_wp2_with fail
   go_meet
   have hb:=AB.out (.int .i64 (1-R.slot)) (.int .i64 (R.number % 3+1))
   refine ⟨_,_,rfl,rfl,⟨HLL.out.belowS hb, ?_, ?_,HBF.out.belowS hb,HBP.out.belowS hb⟩,hb,Nat.le_refl _,Nat.le_succ _⟩
   ·rw [N1.out.1];exact A1.out _ _
   ·rw [N1.out.2];exact A2.out _ _
  ·go_wp2_with fail
   go_meet
   have hb:=AB.out (.int .i64 (R.number % 3+1)) (.int .i64 (1-R.slot))
   refine ⟨_,_,rfl,rfl,⟨HLL.out.belowS hb, ?_, ?_,HBF.out.belowS hb,HBP.out.belowS hb⟩,hb,Nat.le_succ _,Nat.le_refl _⟩
   ·rw [N1.out.1];exact A2.out _ _
   ·rw [N1.out.2];exact A1.out _ _
 case rest =>
  obtain ⟨bs,bn,rfl,rfl,htb,hb,hbs,hbn⟩:=hcut
  have HTB:=Lib.hid htb
  have HBC:=Lib.hid hb
  clear htb hb c7 c8 gz cl lz
  have hbw:=HBW.out.trans (Below.mono HBC.out (by have:=HSZ.out;omega))
  have hbg:=(hbw.alloc hbw.size (.cells ((tellFs w.heap.size bs bn).map (fun x=>Value.func (.func x.1) #[] x.2)).toArray 50))
  have CH:=Lib.hid (wal_tellChain b gd g m1 m2 R f p wc.heap.size bs bn w (wc.alloc (.cells ((tellFs w.heap.size bs bn).map (fun x=>Value.func (.func x.1) #[] x.2)).toArray 50)) HL.out HF.out hs hnum hf hp hbg (by
   have ht:=HTB.out
   intro x hx2
   simp only [tellXs,List.mem_cons,List.not_mem_nil,or_false] at hx2
   rcases hx2 with rfl | rfl | rfl | rfl | rfl | rfl
   ·exact Has.new _ _ _
   ·exact ht.l.alloc _
   ·exact ht.s.alloc _
   ·exact ht.n.alloc _
   ·exact ht.f.alloc _
   ·exact ht.p.alloc _) (by have:=HSZ.out;omega) (by have:=HSZ.out;omega) hbw.size)
  have TB:=Lib.hid (tell_bad R f p)
  have TG:=Lib.hid (tell_good R f p)
  rw [EE.out] at CH TB TG
  clear hbw hbg HTB HBC HBW HLL HBF HBP HLW HSZ hbs hbn
  go_wp2_with ((go_at_call 116;refine CH.out.mono ?_);rintro e w2 ⟨rfl,hH⟩;have HH:=Lib.hid hH;clear hH)
  ·rename_i hE0
   have hE1:E=0:=by simpa using hE0
   obtain ⟨tg,up⟩:=TG.out hE1
   have hh:=HH.out
   rw [up] at hh
   obtain ⟨b',hl,hx,ho,ht⟩:=hh
   have HL2:=Lib.hid hl
   have HT2:=Lib.hid ht
   have TG2:=Lib.hid tg
   have HE1:=Lib.hid hE1
   obtain ⟨x0,x1,x2,_,_⟩:=(tellBox_of hx).cells
   have y7:w2.cell? ⟨g,7,none⟩=some (.int .i64 R.slot):=hl.has.cell 7
   have y8:w2.cell? ⟨g,8,none⟩=some (.int .i64 R.number):=hl.has.cell 8
   have yf:=hl.has.frozen
   have gz:=hl.has.lt
   clear TG TB CH HH EE tg up hl hx ho ht hE0 hE1
   go_region
   all_goals
    go_wp2_with fail
    go_ret
    obtain ⟨h3,t3⟩:=HL2.out.set 7 (.int .i64 ((1-R.slot:Nat):Int)) { tellR R f p 2 with slot:=1-R.slot } rfl rfl HL2.out.map1 HL2.out.map2
    obtain ⟨h4,t4⟩:=h3.set 8 (.int .i64 ((R.number % 3+1:Nat):Int)) { tellR R f p 2 with slot:=1-R.slot,number:=R.number % 3+1 } rfl rfl h3.map1 h3.map2
    rw [show ((R.number % 3+1:Nat):Int)=(R.number:Int) % 3+1 by omega] at h4 t4
    rw [TG2.out]
    exact ⟨rfl,b',h4.below (Below.refl _ _).drew,((HT2.out.trans t3).trans t4).trans (Turn.below _ (Below.refl _ _).drew)⟩
  ·rename_i hE0
   have hE1:E≠0:=by simpa using hE0
   obtain ⟨b',hl,hx,ho,ht⟩:=HH.out
   go_ret
   exact ⟨rfl,b',(TB.out hE1) ▸ hl,ht⟩
end Go.Proofs.YtjihboddejaelaaGreat
namespace Go.Proofs.YtjihboddejaelaaGreat
open Go.RowKit
open Go.BigFrame
open Go.Maps
theorem wfI {x:Int} (h1 : -9223372036854775808≤x) (h2:x≤9223372036854775807):(Lit.int .i64 x).wf=true:=WalkArith.wf_i64 ⟨by omega,by omega⟩
theorem MP.put {w:World} {b n:Nat} {f:Int→Nat} (h:MP w b n f) (hn:n≤1000000) (k:Int) (c:Nat) (hk:(Lit.int .i64 k).wf=true) (hc:c≤4611686018427387904) :
 ∃ w',(Instr.mapUpdate 104 (.map (some b)) (.int .i64 k) (.int .i64 c)).run Tryz.prog w = .ok () w'∧MP w' b (n+1) (fun y=>if y=k then c else f y)∧w.grownBy w' (some b):=by
 obtain ⟨D,h1,h2⟩:=h
 obtain ⟨w',hr,h3,h4⟩:=h1.update lawInt Tryz.underlying104 (by unfold maxLen;omega) (keyOf_int_mk Tryz.underlying3 hk) (plainElem_int Tryz.underlying3 (wfI (x:=(c:Int)) (by omega) (by omega)))
 refine ⟨w',hr,⟨_,h3,fun x=>?_⟩,h4⟩
 by_cases hx:x=k
 ·subst hx
  show _=DataW.lit (Lit.int .i64 ((if x=x then c else f x:Nat):Int))
  rw [if_pos rfl]
  exact atKey_put_same (k:=.int .i64 x) h1.isMap trivial _ _
 ·show _=DataW.lit (Lit.int .i64 ((if x=k then c else f x:Nat):Int))
  rw [if_neg hx,atKey_put_other (by intro e;cases e;exact hx rfl)]
  exact h2 x
end Go.Proofs.YtjihboddejaelaaGreat
namespace Go.Proofs.YtjihboddejaelaaGreat
open Go.RowKit
open Go.BigFrame
open Go.Maps
def Rw.at_ (R:Rw):Nat:=64+1028*R.nf
def frB (n:Int) (t:ByteArray):ByteArray:=bsOf (Fr.bytes ⟨n.toNat,t⟩)
def appFits (n:Int) (t:ByteArray):Prop:=0≤n∧n≤2147483647∧t.size=1024
instance (n:Int) (t:ByteArray):Decidable (appFits n t):=by unfold appFits;infer_instance
def Rw.app (R:Rw) (n:Int) (t:ByteArray):Rw :=
 if appFits n t∧R.at_+1028≤67108864 then
  if R.D.writeE 1 R.at_ (frB n t)=0 then { R with D:=R.D.write 1 R.at_ (frB n t),nf:=R.nf+1,f1:=fun y=>if y=n then R.nf+1 else R.f1 y }
  else { R with D:=R.D.write 1 R.at_ (frB n t) }
 else R
def Rw.appE (R:Rw) (n:Int) (t:ByteArray):Int:=if appFits n t then (if R.at_+1028≤67108864 then R.D.writeE 1 R.at_ (frB n t) else 8) else 1
theorem MP.mono {w:World} {b n m:Nat} {f:Int→Nat} (h:MP w b n f) (hn:n≤m):MP w b m f:=by
 obtain ⟨D,h1,h2⟩:=h
 exact ⟨D,h1.mono hn,h2⟩
theorem LR.onMap1 {w w':World} {b:List (Option Nat)} {gd g m1 m2:Nat} {R:Rw} (h:LR w b gd g m1 m2 R) (hg:w.grownBy w' (some m1)) (R':Rw) (hc:rwCells gd m1 m2 R=rwCells gd m1 m2 R') (hD:R'.D=R.D) (h1:MP w' m1 R'.nf R'.f1) (h2:MP w m2 R'.kf R'.f2) :
 LR w' b gd g m1 m2 R'∧Turn (b++lb g m1 m2) (b++lb g m1 m2) w w':=by
 have ht:=Turn.grown hg
 refine ⟨⟨hD ▸ h.disk.turn ht fun k hk h2=>?_,hc ▸ h.has.grown hg (fun e=>h.ne1 (Option.some.inj e)),h1,h2.turn ht fun h3=>?_,h.ne,h.apart⟩,ht.wide (fun k hk=>?_) (fun k hk=>.inr hk)⟩
 ·have:k=m1:=by simpa using hk
  subst this
  exact h.off.2.1 h2
 ·exact h.ne (by simpa using h3:m2=m1).symm
 ·have:k=m1:=by simpa using hk
  exact List.mem_append_right _ (mem_lb.2 (.inr (.inl this)))
theorem LinkPost.refl {u:World} {b:List (Option Nat)} {gd g m1 m2:Nat} {R:Rw} {E:Int} (h:LR u b gd g m1 m2 R):LinkPost u b gd g m1 m2 R E (.returned (.int .i64 E)) u:=⟨rfl,b,h,Turn.refl _ _⟩
set_option maxRecDepth 100000 in
set_option maxHeartbeats 3200000 in
theorem wal_Append (b:List (Option Nat)) (gd g m1 m2:Nat) (R:Rw) (n:Int) (t:ByteArray) (w:World) (h:LR w b gd g m1 m2 R) (hfit:Fit R.D 1) (hnf:R.nf≤100000) :
 Calls Tryz.prog 98 #[.pointer (some ⟨g,0,none⟩),.int .i64 n,.string t] w (LinkPost w b gd g m1 m2 (R.app n t) (R.appE n t)):=by
 have HL:=Lib.hid h
 have x0:=h.cell0
 have x1:w.cell? ⟨g,1,none⟩=some (.int .i64 R.nf):=h.has.cell 1
 have x3:w.cell? ⟨g,3,none⟩=some (.map (some m1)):=h.has.cell 3
 have xf:=h.has.frozen
 have HF:=Lib.hid hfit
 clear h hfit
 by_cases hA:appFits n t
 ·by_cases hr:R.at_+1028≤67108864
  ·have EA:=Lib.hid (show R.app n t=if R.D.writeE 1 R.at_ (frB n t)=0 then { R with D:=R.D.write 1 R.at_ (frB n t),nf:=R.nf+1,f1:=fun y=>if y=n then R.nf+1 else R.f1 y } else { R with D:=R.D.write 1 R.at_ (frB n t) } from if_pos ⟨hA,hr⟩)
   have EE:=Lib.hid (show R.appE n t=R.D.writeE 1 R.at_ (frB n t) by unfold Rw.appE;rw [if_pos hA,if_pos hr])
   rw [EE.out]
   obtain ⟨h1,h2,h3⟩:=hA
   unfold Rw.at_ at hr
   have TP:=Lib.hid (fun b1 w1 (h1:DP w1 b1 gd R.D)=>disk_Write gd R.D b1 1 R.at_ (frB n t) w1 h1 HF.out.ok (by have:=HF.out.count;omega) (by have:=HF.out.waits;omega) (by unfold frB;rw [bsOf_size,Fr.bytes_len _ h3];omega))
   have FO:=Lib.hid (wal_four n.toNat (by omega))
   have HS:=Lib.hid (show frB n t=bsOf (beK n.toNat 4)++t by unfold frB Fr.bytes;rw [← bsOf_append,bsOf_of])
   rw [HS.out] at TP EA EE ⊢
   obtain ⟨s1,hs1⟩:∃ s,bsOf (beK n.toNat 4)=s:=⟨_,rfl⟩
   have z1:s1.size=4:=by rw [← hs1,bsOf_size,beK_len]
   rw [hs1] at TP FO EA EE ⊢
   rw [show ((n.toNat:Nat):Int)=n from Int.toNat_of_nonneg h1] at FO
   obtain ⟨E,hE⟩:∃ x,R.D.writeE 1 R.at_ (s1++t)=x:=⟨_,rfl⟩
   obtain ⟨D',hD⟩:∃ x,R.D.write 1 R.at_ (s1++t)=x:=⟨_,rfl⟩
   rw [hE,hD] at TP EA
   rw [hE]
   have H3:=Lib.hid h3
   have z3:(t.size:Int)=1024:=by omega
   have H1:=Lib.hid h1;have H2:=Lib.hid h2;have HR:=Lib.hid hr
   have d1:decide (n<0)=false:=by simp;omega
   have d2:decide ((2147483648:Int)≤n)=false:=by simp;omega
   have d3:decide ((67108864:Int)<64+(R.nf:Int)*1028+1028)=false:=by simp;omega
   clear hE hD HS hs1 EE h3 h1 h2 hr
   go_enter Tryz.func98,Tryz.ntmps98
   go_wp2_with fail
   have HLD:=Lib.hid (HL.out.below (Below.refl _ _).drew)
   have HB:=Lib.hid ((Below.refl w.heap.size w).drew)
   rw [show ((R.at_:Nat):Int)=64+(R.nf:Int)*1028 by unfold Rw.at_;omega] at TP
   go_region_with
    (first | (go_at_call 173;(with_reducible refine (FO.out _).mono ?_);rintro e w1 ⟨rfl,hb1⟩;have HL1:=Lib.hid (HLD.out.below hb1);have HB1:=Lib.hid (bel_step HB.out hb1 HB.out.size);have y1:=HL1.out.cell0) | (go_at_call 172;(with_reducible refine (TP.out _ _ HL1.out.disk).mono ?_);rintro e w2 ⟨rfl,b2,hd2,ht2⟩;obtain ⟨hl2,ht3⟩:=HL1.out.onDisk hd2 ht2;have HL2:=Lib.hid hl2;have HT2:=Lib.hid ((Turn.below _ HB1.out).trans ht3);have y0:=hl2.cell0;clear hd2 ht2 hl2 ht3 hb1))
   all_goals
    by_cases hE0:E=0
    ·subst hE0
     have EA2:=Lib.hid (EA.out.trans (if_pos rfl))
     have y1:w2.cell? ⟨g,1,none⟩=some (.int .i64 R.nf):=HL2.out.has.cell 1
     have y3:w2.cell? ⟨g,3,none⟩=some (.map (some m1)):=HL2.out.has.cell 3
     have yf:=HL2.out.has.frozen
     have yz:=HL2.out.has.lt
     have HSET:=Lib.hid (HL2.out.set 1 (.int .i64 (R.nf+1:Nat)) { R with D:=D',nf:=R.nf+1 } rfl rfl (HL2.out.map1.mono (Nat.le_succ _)) HL2.out.map2)
     rw [show ((R.nf+1:Nat):Int)=(R.nf:Int)+1 from rfl] at HSET
     have HM1:=Lib.hid (show MP (w2.setCell ⟨g,1,none⟩ (.int .i64 ((R.nf:Int)+1))) m1 R.nf R.f1 from HL2.out.map1.block (Below.heap_setCell _ _ _ _ HL2.out.ne1.symm))
     clear EA x0 x1 x3 xf y0 HLD HB HL1 HB1
     go_upto_region 10 with fail
     have WN:=Lib.hid (wfI (x:=n) (by have:=H1.out;omega) (by have:=H2.out;omega))
     obtain ⟨w3,hrun,hm3,hg3⟩:=(show MP (w2.setCell ⟨g,1,none⟩ (.int .i64 ((R.nf:Int)+1))).drew m1 R.nf R.f1 from HM1.out.block rfl).put (by omega) n (R.nf+1) WN.out (by omega)
     rw [show ((R.nf+1:Nat):Int)=(R.nf:Int)+1 from rfl] at hrun
     have HM3:=Lib.hid hm3
     have HG3:=Lib.hid hg3
     clear hm3 hg3
     go_region
     all_goals
      go_wp2_with fail
      go_ret
      obtain ⟨h5,t5⟩:=(HSET.out.1.below (Below.refl _ _).drew).onMap1 HG3.out (R.app n t) (by rw [EA2.out];rfl) (by rw [EA2.out]) (by rw [EA2.out];exact HM3.out) (by rw [EA2.out];exact (HSET.out.1.below (Below.refl _ _).drew).map2)
      exact ⟨rfl,b2,h5,((HT2.out.trans HSET.out.2).trans (Turn.below _ (Below.refl _ _).drew)).trans t5⟩
    ·go_wp2_with fail
     go_ret
     rw [EA.out,if_neg hE0]
     exact ⟨rfl,b2,HL2.out,HT2.out⟩
  ·have EE:=Lib.hid (show R.app n t=R∧R.appE n t=8 from ⟨if_neg (fun h=>hr h.2),by unfold Rw.appE;rw [if_pos hA,if_neg hr]⟩)
   rw [EE.out.1,EE.out.2]
   obtain ⟨h1,h2,h3⟩:=hA
   unfold Rw.at_ at hr
   have z3:(t.size:Int)=1024:=by omega
   have d1:decide (n<0)=false:=by simp;omega
   have d2:decide ((2147483648:Int)≤n)=false:=by simp;omega
   have d3:decide ((67108864:Int)<64+(R.nf:Int)*1028+1028)=true:=by simp;omega
   clear EE h3 h1 h2 hr
   go_enter Tryz.func98,Tryz.ntmps98
   go_wp2_with fail
   go_ret
   exact LinkPost.refl HL.out
 ·have EE:=Lib.hid (show R.app n t=R∧R.appE n t=1 from ⟨if_neg (fun h=>hA h.1),by unfold Rw.appE;rw [if_neg hA]⟩)
  rw [EE.out.1,EE.out.2]
  clear EE
  unfold appFits at hA
  by_cases h1:0≤n
  ·have d1:decide (n<0)=false:=by simp;omega
   by_cases h2:n≤2147483647
   ·have d2:decide ((2147483648:Int)≤n)=false:=by simp;omega
    have d3:((t.size:Int) != 1024)=true:=by
     rw [bne_iff_ne];intro e;exact hA ⟨h1,h2,by omega⟩
    clear hA h1 h2
    go_enter Tryz.func98,Tryz.ntmps98
    go_wp2_with fail
    go_ret
    exact LinkPost.refl HL.out
   ·have d2:decide ((2147483648:Int)≤n)=true:=by simp;omega
    clear hA h1 h2
    go_enter Tryz.func98,Tryz.ntmps98
    go_wp2_with fail
    go_ret
    exact LinkPost.refl HL.out
  ·have d1:decide (n<0)=true:=by simp;omega
   clear hA h1
   go_enter Tryz.func98,Tryz.ntmps98
   go_wp2_with fail
   go_ret
   exact LinkPost.refl HL.out
end Go.Proofs.YtjihboddejaelaaGreat
namespace Go.Proofs.YtjihboddejaelaaGreat
open Go.RowKit
def Lg.rw (L:Lg):Rw:=⟨L.D,L.fs.length,L.pages,fun x=>lastAt L.fs x,L.kept,L.pages,fun x=>lastAt (L.fs.take L.kept) x,L.slot,L.number⟩
theorem sync_seen (D:Dk) (f:Nat) (hf:f<2) (k:Nat) (hk:k<2):(D.sync f).seen k=D.seen k:=by
 unfold Dk.sync
 rw [if_pos (by omega)]
 split
 ·exact D.turn_seen k
 ·exact D.syncT_seen f k hf hk
theorem fitsF_iff {f a n:Nat}:fitsF f a n↔f<2∧a+n≤67108864:=by unfold fitsF;omega
theorem write_seen (D:Dk) (f a:Nat) (s:ByteArray) (k:Nat):(D.write f a s).seen k=if (f<2∧a+s.size≤67108864)∧¬ D.stops∧f=k then putL (D.seen k) a s.data.toList else D.seen k:=by
 unfold Dk.write
 by_cases h:fitsF f a s.size
 ·have h2:=fitsF_iff.1 h
  rw [if_pos h]
  by_cases hs:D.stops
  ·rw [if_neg (fun h3=>h3.2.1 hs)]
   unfold Dk.change;rw [if_pos hs];exact D.turn_seen k
  ·rw [Dk.change_seen _ _ hs]
   simp only [Int.toNat_natCast]
   by_cases hk:f=k
   ·have h3:(f<2∧a+s.size≤67108864)∧¬ D.stops∧f=k:=⟨h2,hs,hk⟩
    rw [if_pos hk,if_pos h3]
    unfold Ch.done;simp
   ·rw [if_neg hk,if_neg (fun h3=>hk h3.2.2)]
 ·rw [if_neg h,if_neg (fun h3=>h (fitsF_iff.2 h3.1))]
theorem cut_seen (D:Dk) (f a:Nat) (k:Nat) (hk:f≠k):(D.cutD f a).seen k=D.seen k:=by
 unfold Dk.cutD
 split
 ·unfold Dk.change
  split
  ·exact D.turn_seen k
  ·show seenL (D.waits++[_]) k (D.turn.lasts k)=_
   rw [seenL_snoc,if_neg (by show ¬ (f:Int).toNat=k;omega)]
   have:D.turn.lasts k=D.lasts k:=by unfold Dk.turn;split <;> rfl
   rw [this];rfl
 ·rfl
theorem Lg.ok.onDisk {L:Lg} (h:L.ok) {D':Dk} (hD:D'.ok) (hs:∀ i f,L.fs[i]? = some f→partL (D'.seen 1) (64+1028*i) 1028=partL (L.D.seen 1) (64+1028*i) 1028):({ L with D:=D' }:Lg).ok :=
 ⟨hD,h.frames,fun i f hf=>(hs i f hf).trans (h.lies i f hf),h.top,h.kept,h.pages,h.slot,h.number⟩
theorem Lg.ok.same {L:Lg} (h:L.ok) {D':Dk} (hD:D'.ok) (hs:D'.seen 1=L.D.seen 1):({ L with D:=D' }:Lg).ok:=h.onDisk hD fun i f hf=>by rw [hs]
theorem Lg.ok.there {L:Lg} (h:L.ok) {i:Nat} {f:Fr} (hf:L.fs[i]? = some f):64+1028*i+1028≤(L.D.seen 1).length :=
 partL_full (h.lies i f hf) (Fr.bytes_len f (h.frames f (List.mem_of_getElem? hf)).2) (by omega)
theorem bsOf_list (l:List UInt8):(bsOf l).data.toList=l:=bsOf_data l
set_option maxRecDepth 100000 in
theorem append_ok {L:Lg} (h:L.ok) (n:Int) (t:ByteArray):(L.append n t).ok:=by
 unfold Lg.append
 split
 ·rename_i hf
  obtain ⟨⟨h1,h2,h3⟩,h4⟩:=hf
  have hat:64+1028*(L.fs.length+1)≤67108864:=by unfold Lg.at_ at h4;omega
  have hz:(Fr.bytes ⟨n.toNat,t⟩).length=1028:=Fr.bytes_len _ h3
  have hw:=Dk.write_ok h.disk 1 L.at_ (bsOf (Fr.bytes ⟨n.toNat,t⟩))
  have hs:=write_seen L.D 1 L.at_ (bsOf (Fr.bytes ⟨n.toNat,t⟩)) 1
  by_cases hst:L.D.stops
  ·rw [if_neg (fun h5=>h5.2.1 hst)] at hs
   rw [if_pos hst]
   exact h.same hw hs
  ·rw [if_pos ⟨⟨by omega,by rw [bsOf_size,hz];exact h4⟩,hst,rfl⟩,bsOf_list] at hs
   rw [if_neg hst]
   refine ⟨hw,fun f hf=>?_,fun i f hf=>?_,.inl ?_, ?_,h.pages,h.slot,h.number⟩
   ·rcases List.mem_append.1 hf with hf | hf
    ·exact h.frames f hf
    ·rw [List.mem_singleton.1 hf];exact ⟨by show n.toNat<_;omega,h3⟩
   ·show partL ((L.D.write 1 L.at_ _).seen 1) _ _=_
    rw [show ((1:Nat):Int)=1 from rfl] at hs
    rw [hs]
    by_cases hi:i<L.fs.length
    ·simp only [] at hf
     rw [List.getElem?_append_left hi] at hf
     rw [partL_put (h.there hf) (.inl (by show _≤64+1028*L.fs.length;omega))]
     exact h.lies i f hf
    ·simp only [] at hf
     rw [List.getElem?_append_right (by omega)] at hf
     obtain ⟨hi2,hf2⟩:=List.getElem?_eq_some_iff.1 hf
     simp only [List.length_singleton] at hi2
     have hi3:i=L.fs.length:=by omega
     subst hi3
     simp at hf2
     subst hf2
     have:=partL_put_same (L.D.seen 1) L.at_ (Fr.bytes ⟨n.toNat,t⟩)
     rw [hz] at this
     exact this
   ·show 64+1028*(L.fs++[_]).length≤_
    rw [List.length_append,List.length_singleton]
    exact hat
   ·show L.kept≤(L.fs++[_]).length
    have:=h.kept
    rw [List.length_append];omega
 ·exact h
theorem tellD_seen (L:Lg) (f p:Nat) (hsl:L.slot<2) (b n:Nat) (hb:64≤b) (hl:b+n≤(L.D.seen 1).length):partL ((L.tellD f p).seen 1) b n=partL (L.D.seen 1) b n:=by
 have hs:=write_seen L.D 1 (16+24*(1-L.slot)) (bsOf (slotL (L.number % 3+1) f p)) 1
 unfold Lg.tellD
 rw [show ((1:Nat):Int)=1 from rfl] at hs
 rw [hs]
 split
 ·exact partL_put hl (.inr (by rw [bsOf_list,slotL_len];omega))
 ·rfl
theorem tellD_ok {L:Lg} (h:L.ok) (f p:Nat):(L.tellD f p).ok:=Dk.write_ok h.disk _ _ _
theorem Lg.ok.tell {L:Lg} (h:L.ok) {f p:Nat} (hf:f≤L.fs.length) (hp:p<4294967296):(L.tell f p).ok:=by
 unfold Lg.tell
 have ht:∀ i g,L.fs[i]? = some g→partL ((L.tellD f p).seen 1) (64+1028*i) 1028=partL (L.D.seen 1) (64+1028*i) 1028:=fun i g hg=>tellD_seen L f p h.slot _ _ (by omega) (h.there hg)
 have hsy:((L.tellD f p).sync 1).seen 1=(L.tellD f p).seen 1:=sync_seen _ 1 (by omega) 1 (by omega)
 have hok:=Dk.sync_ok (tellD_ok h f p) 1
 split
 ·exact h.onDisk (tellD_ok h f p) ht
 ·split
  ·exact h.onDisk hok fun i g hg=>by rw [hsy];exact ht i g hg
  ·exact ⟨hok,h.frames,fun i g hg=>by show partL (((L.tellD f p).sync 1).seen 1) _ _=_;rw [hsy,ht i g hg];exact h.lies i g hg,h.top,hf,hp,by show 1-L.slot<2;omega,by show L.number % 3+1<4;omega⟩
theorem Lg.ok.sync1 {L:Lg} (h:L.ok) (k:Nat) (hk:k<2):({ L with D:=L.D.sync k }:Lg).ok:=h.same (Dk.sync_ok h.disk k) (sync_seen L.D k hk 1 (by omega))
theorem commit_ok {L:Lg} (h:L.ok) (n:Int) (t:ByteArray) (p:Int):(L.commit n t p).ok:=by
 unfold Lg.commit
 split
 ·rename_i hp
  split
  ·split
   ·exact (append_ok h n t).sync1 1 (by omega)
   ·exact Lg.ok.tell ((append_ok h n t).sync1 1 (by omega)) (Nat.le_refl _) (by omega)
  ·exact append_ok h n t
 ·exact h
theorem back_ok {L:Lg} (h:L.ok):L.back.ok:=by
 unfold Lg.back
 refine ⟨h.disk,fun f hf=>h.frames f (List.mem_of_mem_take hf),fun i f hf=>h.lies i f ?_, ?_, ?_,h.pages,h.slot,h.number⟩
 ·simp only [List.getElem?_take] at hf
  split at hf
  ·exact hf
  ·cases hf
 ·rcases h.top with h1 | h1
  ·refine .inl ?_
   show 64+1028*(L.fs.take L.kept).length≤_
   rw [List.length_take];omega
  ·refine .inr ?_
   show L.fs.take L.kept=[]
   rw [h1,List.take_nil]
 ·show L.kept≤(L.fs.take L.kept).length
  have:=h.kept
  rw [List.length_take];omega
end Go.Proofs.YtjihboddejaelaaGreat
namespace Go.Proofs.YtjihboddejaelaaGreat
open Go.RowKit
open Go.BigFrame
open Go.Maps
def MapsPost (u:World) (b:List (Option Nat)) (gd g m1 m2:Nat) (R':Rw) (v:Value) (e:Ending) (w':World):Prop :=
 e = .returned v∧∃ b' m1' m2',LR w' b' gd g m1' m2' R'∧Turn (b++lb g m1 m2) (b'++lb g m1' m2') u w'
theorem LinkPost.maps {u:World} {b:List (Option Nat)} {gd g m1 m2:Nat} {R':Rw} {E:Int} {e:Ending} {w':World} (h:LinkPost u b gd g m1 m2 R' E e w'):MapsPost u b gd g m1 m2 R' (.int .i64 E) e w':=by
 obtain ⟨he,b',h1,h2⟩:=h
 exact ⟨he,b',m1,m2,h1,h2⟩
theorem Turn.trans' {w0 w w':World} {c d d' s s':List (Option Nat)} (h:Turn c d w0 w) (k:Turn s s' w w') (hs:∀ k,some k∈s→some k∈d) (hd:∀ k,some k∈d'→some k∈d∨w0.heap.size≤k):Turn c d' w0 w' :=
 ⟨k.os.trans h.os,k.tape.trans h.tape,k.output.trans h.output,Nat.le_trans h.size k.size,fun i hi hn=>(k.block i (Nat.lt_of_lt_of_le hi h.size) (fun h2=>by
   rcases h.new i (hs i h2) with h3 | h3
   ·exact hn h3
   ·omega)).trans (h.block i hi hn),fun i hi=>(hd i hi).elim (h.new i) .inr⟩
section
variable {w0 w w':World} {b c:List (Option Nat)} {gd g m1 m2 m n:Nat} {R:Rw} {f:Int→Nat}
theorem LR.newNow (h:LR w b gd g m1 m2 R) (ht:Turn c (b++lb g m1 m2) w0 w) (hm:MP w m n f) (hoff:some m∉b++lb g m1 m2) (hlow:w0.heap.size≤m) (p:Nat) :
 LR (((w.setCell ⟨g,1,none⟩ (.int .i64 n)).setCell ⟨g,2,none⟩ (.int .i64 p)).setCell ⟨g,3,none⟩ (.map (some m))) b gd g m m2 { R with nf:=n,np:=p,f1:=f } ∧
 Turn c (b++lb g m m2) w0 (((w.setCell ⟨g,1,none⟩ (.int .i64 n)).setCell ⟨g,2,none⟩ (.int .i64 p)).setCell ⟨g,3,none⟩ (.map (some m))):=by
 have t1:Turn [some g] [some g] w (((w.setCell ⟨g,1,none⟩ (.int .i64 n)).setCell ⟨g,2,none⟩ (.int .i64 p)).setCell ⟨g,3,none⟩ (.map (some m))):=((Turn.cell g 1 _ w).trans (Turn.cell g 2 _ _)).trans (Turn.cell g 3 _ _)
 have hg:some g∈b++lb g m1 m2:=List.mem_append_right _ (mem_lb.2 (.inl rfl))
 have hmg:m≠g:=by rintro rfl;exact hoff hg
 have hm2:m≠m2:=by rintro rfl;exact hoff (List.mem_append_right _ (mem_lb.2 (.inr (.inr rfl))))
 have hmb:some m∉b:=fun h2=>hoff (List.mem_append_left _ h2)
 refine ⟨⟨h.disk.turn t1 fun k hk h2=>?_,((h.has.set 1 _).set 2 _).set 3 _,hm.turn t1 fun h3=>hmg (by simpa using h3),h.map2.turn t1 fun h3=>h.ne2 (by simpa using h3:m2=g).symm,hm2,fun k hk h2=>?_⟩, ?_⟩
 ·have:k=g:=by simpa using hk
  subst this;exact h.off.1 h2
 ·rcases mem_lb.1 h2 with rfl | rfl | rfl
  ·exact h.off.1 hk
  ·exact hmb hk
  ·exact h.off.2.2 hk
 ·refine ht.trans' t1 (fun k hk=>?_) (fun k hk=>?_)
  ·have:k=g:=by simpa using hk
   subst this;exact hg
  ·rcases List.mem_append.1 hk with h2 | h2
   ·exact .inl (List.mem_append_left _ h2)
   ·rcases mem_lb.1 h2 with rfl | rfl | rfl
    ·exact .inl hg
    ·exact .inr hlow
    ·exact .inl (List.mem_append_right _ (mem_lb.2 (.inr (.inr rfl))))
end
theorem LR.now {w:World} {b:List (Option Nat)} {gd g m1 m2:Nat} {R:Rw} (h:LR w b gd g m1 m2 R):w.cell? ⟨g,1,none⟩=some (.int .i64 R.nf)∧w.cell? ⟨g,2,none⟩=some (.int .i64 R.np)∧w.cell? ⟨g,3,none⟩=some (.map (some m1)):=⟨h.has.cell 1,h.has.cell 2,h.has.cell 3⟩
theorem LR.old {w:World} {b:List (Option Nat)} {gd g m1 m2:Nat} {R:Rw} (h:LR w b gd g m1 m2 R):w.cell? ⟨g,4,none⟩=some (.int .i64 R.kf)∧w.cell? ⟨g,5,none⟩=some (.int .i64 R.kp)∧w.cell? ⟨g,6,none⟩=some (.map (some m2)):=⟨h.has.cell 4,h.has.cell 5,h.has.cell 6⟩
def Rw.back (R:Rw):Rw:={ R with nf:=R.kf,np:=R.kp,f1:=R.f2 }
set_option maxRecDepth 100000 in
set_option maxHeartbeats 1600000 in
theorem wal_Back (b:List (Option Nat)) (gd g m1 m2:Nat) (R:Rw) (w:World) (h:LR w b gd g m1 m2 R) (hk:R.kf≤1000000) :
 Calls Tryz.prog 163 #[.pointer (some ⟨g,0,none⟩)] w (MapsPost w b gd g m1 m2 R.back (.tuple #[])):=by
 have HL:=Lib.hid h
 have x4:w.cell? ⟨g,4,none⟩=some (.int .i64 R.kf):=h.has.cell 4
 have x5:w.cell? ⟨g,5,none⟩=some (.int .i64 R.kp):=h.has.cell 5
 have x6:w.cell? ⟨g,6,none⟩=some (.map (some m2)):=h.has.cell 6
 have xf:=h.has.frozen
 have xz:=h.has.lt
 have CP:=Lib.hid (fun w1 (h1:MP w1 m2 R.kf R.f2)=>wal_copied m2 R.kf R.kp R.kf R.f2 w1 hk h1)
 clear h
 go_enter Tryz.func163,Tryz.ntmps163
 go_wp2_with ((go_at_call 115;refine (CP.out _ HL.out.map2).mono ?_);rintro e w1 ⟨m,rfl,hm,hlow,hb⟩;have HM:=Lib.hid hm;have HW:=Lib.hid hlow;have HB:=Lib.hid hb;have y1:=(HL.out.below hb).has.lt;have c1:=(HL.out.below hb).now;have yf:=(HL.out.below hb).has.frozen;clear hm hlow hb;obtain ⟨c1,c2,c3⟩:=c1)
 go_end0
 have H1:=HL.out.below HB.out
 obtain ⟨h2,t2⟩:=H1.newNow (Turn.below _ HB.out) HM.out (fun h3=>by have:=HL.out.lt h3;have:=HW.out;omega) HW.out R.kp
 exact ⟨rfl,b,m,m2,h2,t2⟩
set_option maxHeartbeats 400000 in
theorem wal_Pages (b:List (Option Nat)) (gd g m1 m2:Nat) (R:Rw) (w:World) (h:LR w b gd g m1 m2 R):Calls Tryz.prog 39 #[.pointer (some ⟨g,0,none⟩)] w fun e w'=>e = .returned (.int .i64 R.kp)∧w=w':=by
 have x5:w.cell? ⟨g,5,none⟩=some (.int .i64 R.kp):=h.has.cell 5
 go_enter Tryz.func39,Tryz.ntmps39
 go_wp2_with fail
 go_ret
 exact ⟨rfl,rfl⟩
set_option maxHeartbeats 400000 in
theorem wal_Frames (b:List (Option Nat)) (gd g m1 m2:Nat) (R:Rw) (w:World) (h:LR w b gd g m1 m2 R):Calls Tryz.prog 89 #[.pointer (some ⟨g,0,none⟩)] w fun e w'=>e = .returned (.int .i64 R.nf)∧w=w':=by
 have x5:w.cell? ⟨g,1,none⟩=some (.int .i64 R.nf):=h.has.cell 1
 go_enter Tryz.func89,Tryz.ntmps89
 go_wp2_with fail
 go_ret
 exact ⟨rfl,rfl⟩
end Go.Proofs.YtjihboddejaelaaGreat
namespace Go.Proofs.YtjihboddejaelaaGreat
open Go.RowKit
theorem put1_ok (L:Lg) {D:Dk} (h:D.ok) (m:Nat):(L.put1 D m).ok∧(L.put1 D m).seen 1=D.seen 1:=by
 unfold Lg.put1
 split
 ·refine ⟨Dk.write_ok h _ _ _, ?_⟩
  have:=write_seen D 0 (1024*m) (((L.fs[lastAt L.fs m-1]?).map (·.text)).getD ⟨#[]⟩) 1
  rw [if_neg (fun h3=>by omega)] at this
  exact this
 ·exact ⟨h,rfl⟩
theorem puts_ok (L:Lg):∀ (k m:Nat) (D:Dk),D.ok→(L.puts k m D).1.ok∧(L.puts k m D).1.seen 1=D.seen 1
 | 0,m,D,h=>⟨h,rfl⟩
 | k+1,m,D,h=>by
   obtain ⟨h1,h2⟩:=put1_ok L h m
   rw [Lg.puts]
   split
   ·obtain ⟨h3,h4⟩:=puts_ok L k (m+1) _ h1
    exact ⟨h3,h4.trans h2⟩
   ·exact ⟨h1,h2⟩
theorem check3_ok {L:Lg} (h:L.ok) {D:Dk} (hD:D.ok) (hs:D.seen 1=L.D.seen 1):(L.check3 D).1.ok:=by
 unfold Lg.check3
 have c1:(D.cutD 0 (1024*L.pages:Nat)).ok:=Dk.cut_ok hD _ _
 have c2:(D.cutD 0 (1024*L.pages:Nat)).seen 1=L.D.seen 1:=(cut_seen D 0 (1024*L.pages) 1 (by omega)).trans hs
 have c3:((D.cutD 0 (1024*L.pages:Nat)).sync 0).seen 1=L.D.seen 1:=(sync_seen _ 0 (by omega) 1 (by omega)).trans c2
 split
 ·exact h.same c1 c2
 ·split
  ·exact h.same (Dk.sync_ok c1 0) c3
  ·have hM:=h.same (Dk.sync_ok c1 0) c3
   have hT:=hM.tell (f:=0) (p:=L.pages) (Nat.zero_le _) h.pages
   simp only
   split
   ·exact ⟨hT.disk,(fun f hf=>by cases hf),(fun i f hf=>by simp at hf),.inr rfl,by
     rename_i he
     have:(({ L with D:=(D.cutD 0 (1024*L.pages:Nat)).sync 0 }:Lg).tell 0 L.pages).kept=0:=by
      unfold Lg.tellE at he
      unfold Lg.tell
      split
      ·rename_i h1;rw [if_pos h1] at he;cases he
      ·rename_i h1
       rw [if_neg h1] at he
       split
       ·rename_i h2;unfold Dk.turnE at he;rw [if_pos h2] at he;cases he
       ·rfl
     rw [this];exact Nat.zero_le _,hT.pages,hT.slot,hT.number⟩
   ·exact hT
theorem checkpoint_ok {L:Lg} (h:L.ok):L.checkpoint.1.ok:=by
 unfold Lg.checkpoint
 obtain ⟨h1,h2⟩:=puts_ok L L.pages 0 L.D h.disk
 split
 ·exact h
 ·split
  ·exact h
  ·split
   ·exact h.same h1 h2
   ·exact check3_ok h h1 h2
theorem slotOf_good {l:List UInt8} {k:Nat} (h:(slotOf l k).1≠0):(slotOf l k).1≤3∧((slotOf l k).2.1=0∨64+1028*(slotOf l k).2.1≤l.length)∧(slotOf l k).2.2<4294967296:=by
 unfold slotOf at h ⊢
 split at h
 ·exact absurd rfl h
 ·rename_i h1
  rw [if_neg h1]
  simp only at h ⊢
  split at h
  ·exact absurd rfl h
  ·rename_i h2
   rw [if_neg h2]
   dsimp only
   refine ⟨?_, ?_, ?_⟩
   ·exact Classical.byContradiction fun h3=>h2 (.inr (.inl (by omega)))
   ·exact Classical.byContradiction fun h3=>h2 (.inr (.inr (by omega)))
   ·exact unK_lt 4 _ (by rw [partL_len,partL_len];omega)
theorem slotIx_good {l:List UInt8} (h:slotIx l≠2):slotIx l<2∧(slotOf l (slotIx l)).1≠0∧l.take 16=markL:=by
 unfold slotIx at h ⊢
 split at h
 ·exact absurd rfl h
 ·rename_i h1
  rw [if_neg h1]
  have hm:l.take 16=markL:=Classical.byContradiction fun h3=>h1 (.inl h3)
  split
  ·rename_i h2
   refine ⟨by omega,fun h3=>?_,hm⟩
   rcases h2 with h2 | h2
   ·exact h1 (.inr ⟨h2,h3⟩)
   ·exact h2.1 h3
  ·rename_i h2
   exact ⟨by omega,fun h3=>h2 (.inl h3),hm⟩
theorem framesOf_get (l:List UInt8) (f i:Nat) (g:Fr) (h:(framesOf l f)[i]? = some g):i<f∧g=frameAt l i:=by
 unfold framesOf at h
 rw [List.getElem?_map,Option.map_eq_some_iff] at h
 obtain ⟨j,hj,rfl⟩:=h
 have hl:=(List.getElem?_eq_some_iff.1 hj).1
 rw [List.length_range] at hl
 rw [List.getElem?_range hl] at hj
 cases hj
 exact ⟨hl,rfl⟩
theorem framesOf_len (l:List UInt8) (f:Nat):(framesOf l f).length=f:=by unfold framesOf;rw [List.length_map,List.length_range]
theorem framesOf_succ (l:List UInt8) (f:Nat):framesOf l (f+1)=framesOf l f++[frameAt l f]:=by unfold framesOf;rw [List.range_succ,List.map_append];rfl
theorem frameAt_good {l:List UInt8} {f i:Nat} (h:64+1028*f≤l.length) (hi:i<f):(frameAt l i).n<4294967296∧(frameAt l i).text.size=1024∧partL l (64+1028*i) 1028=(frameAt l i).bytes:=by
 refine ⟨unK_lt 4 _ (by rw [partL_len];omega),by unfold frameAt;rw [bsOf_size,partL_len];omega, ?_⟩
 unfold Fr.bytes frameAt
 rw [bsOf_list,beK_unK _ 4 (by rw [partL_len];omega)]
 refine List.ext_getElem? fun j=>?_
 rw [partL_get]
 have e4:(partL l (64+1028*i) 4).length=4:=by rw [partL_len];omega
 by_cases h4:j<4
 ·rw [if_pos (by omega),List.getElem?_append_left (by omega),partL_get,if_pos h4]
 ·rw [List.getElem?_append_right (by omega),e4,partL_get]
  by_cases h5:j<1028
  ·rw [if_pos h5,if_pos (by omega)];congr 1;omega
  ·rw [if_neg h5,if_neg (by omega)]
set_option maxRecDepth 100000 in
theorem opened_ok {D:Dk} (h:D.ok):(Lg.opened D).ok:=by
 have h0:=h.seen 0
 have h1:=h.seen 1
 unfold Lg.opened
 split
 ·have hp:(D.seen 0).length / 1024<4294967296:=by omega
  have hD:(anewD D).ok:=Dk.sync_ok (Dk.write_ok (Dk.sync_ok (Dk.cut_ok h _ _) _) _ _ _) _
  generalize anewD D=X at hD ⊢
  refine ⟨hD, ?_, ?_, ?_, ?_, ?_, ?_, ?_⟩
  ·exact fun f hf=>by cases hf
  ·exact fun i f hf=>by simp at hf
  ·exact .inr rfl
  ·exact Nat.zero_le _
  ·exact hp
  ·exact Nat.zero_lt_two
  ·exact (by omega:1<4)
 ·rename_i hx
  obtain ⟨s1,s2,s3⟩:=slotIx_good hx
  obtain ⟨t1,t2,t3⟩:=slotOf_good s2
  have hlen:=framesOf_len (D.seen 1) (slotOf (D.seen 1) (slotIx (D.seen 1))).2.1
  refine ⟨h,fun f hf=>?_,fun i f hf=>?_, ?_, ?_,t3,s1,Nat.lt_succ_of_le t1⟩
  ·obtain ⟨i,hi⟩:=List.getElem?_of_mem hf
   obtain ⟨hl,rfl⟩:=framesOf_get _ _ _ _ hi
   have:=frameAt_good (l:=D.seen 1) (f:=(slotOf (D.seen 1) (slotIx (D.seen 1))).2.1) (by omega) hl
   exact ⟨this.1,this.2.1⟩
  ·obtain ⟨hl,rfl⟩:=framesOf_get _ _ _ _ hf
   exact (frameAt_good (l:=D.seen 1) (f:=(slotOf (D.seen 1) (slotIx (D.seen 1))).2.1) (by omega) hl).2.2
  ·rcases t2 with t2 | t2
   ·refine .inr (List.eq_nil_of_length_eq_zero ?_)
    show (framesOf _ _).length=0
    rw [hlen,t2]
   ·refine .inl ?_
    show 64+1028*(framesOf _ _).length≤_
    rw [hlen];omega
  ·show _≤(framesOf _ _).length
   rw [hlen];exact Nat.le_refl _
def commitR (R:Rw) (n:Int) (t:ByteArray) (p:Nat):Nat→Rw
 | 0=>R
 | 1=>R.app n t
 | 2=>{ R.app n t with D:=(R.app n t).D.sync 1 }
 | _=>({ R.app n t with D:=(R.app n t).D.sync 1 }:Rw).tell (R.app n t).nf p
def commitEs (R:Rw) (n:Int) (t:ByteArray) (p:Nat):Nat→Int
 | 0=>R.appE n t
 | 1=>(R.app n t).D.syncE 1
 | _=>({ R.app n t with D:=(R.app n t).D.sync 1 }:Rw).tellE (R.app n t).nf p
def Rw.commit (R:Rw) (n:Int) (t:ByteArray) (p:Int):Rw :=
 if 1≤p∧p≤65536 then
  let C:=commitR R n t p.toNat (upTo (commitEs R n t p.toNat) 3).1
  if (upTo (commitEs R n t p.toNat) 3).2=0 then { C with np:=p.toNat,kf:=C.nf,kp:=p.toNat,f2:=C.f1 } else C
 else R
def Rw.commitE (R:Rw) (n:Int) (t:ByteArray) (p:Int):Int:=if 1≤p∧p≤65536 then (upTo (commitEs R n t p.toNat) 3).2 else 1
theorem upTo3 (Es:Nat→Int):upTo Es 3=if Es 0≠0 then (1,Es 0) else if Es 1≠0 then (2,Es 1) else (3,Es 2):=by
 by_cases h0:Es 0=0
 ·rw [if_neg (by simpa using h0)]
  have e1:upTo Es 1=(1,0):=by rw [upTo_next rfl];show (0+1,Es 0)=_;rw [h0]
  by_cases h1:Es 1=0
  ·rw [if_neg (by simpa using h1)]
   have e2:upTo Es 2=(2,0):=by rw [upTo_next e1,h1]
   rw [upTo_next e2]
  ·rw [if_pos h1]
   have e2:upTo Es 2=(2,Es 1):=upTo_next e1
   rw [upTo_stop (i:=2) (by rw [e2];exact h1) (by omega),e2]
 ·rw [if_pos h0]
  have e1:upTo Es 1=(1,Es 0):=upTo_next rfl
  rw [upTo_stop (i:=1) (by rw [e1];exact h0) (by omega),e1]
theorem rw_eq {L:Lg} {R:Rw} (h1:L.D=R.D) (h2:L.fs.length=R.nf) (h3:L.pages=R.np) (h4:∀ x,lastAt L.fs x=R.f1 x) (h5:L.kept=R.kf) (h6:L.pages=R.kp) (h7:∀ x,lastAt (L.fs.take L.kept) x=R.f2 x) (h8:L.slot=R.slot) (h9:L.number=R.number):L.rw=R:=by
 obtain ⟨D,nf,np,f1,kf,kp,f2,sl,nu⟩:=R
 simp only at h1 h2 h3 h4 h5 h6 h7 h8 h9
 unfold Lg.rw
 rw [h1,h2,h3,show (fun x=>lastAt L.fs x)=f1 from funext h4,show (fun x=>lastAt (L.fs.take L.kept) x)=f2 from funext h7,h5,← h3,h6,h8,h9]
theorem rw_back {L:Lg} (h:L.ok):L.back.rw=L.rw.back:=by
 have hk:=h.kept
 refine rw_eq rfl ?_ rfl (fun x=>rfl) rfl rfl (fun x=>?_) rfl rfl
 ·show (L.fs.take L.kept).length=L.kept
  rw [List.length_take];omega
 ·show lastAt ((L.fs.take L.kept).take L.kept) x=_
  rw [List.take_take,Nat.min_self];rfl
theorem turnE_zero (D:Dk):D.turnE=0↔¬ D.stops:=by
 unfold Dk.turnE
 split
 ·rename_i h;exact ⟨fun h2=>(by cases h2),fun h2=>absurd h h2⟩
 ·rename_i h;exact ⟨fun _=>h,fun _=>rfl⟩
theorem writeE_fits {D:Dk} {f a:Nat} {s:ByteArray} (h:f<2∧a+s.size≤67108864):D.writeE f a s=D.turnE:=if_pos (fitsF_iff.2 h)
theorem syncE_fits {D:Dk} {f:Nat} (h:f<2):D.syncE f=D.turnE:=if_pos (by omega)
theorem rw_app {L:Lg} (h:L.ok) (n:Int) (t:ByteArray):(L.append n t).rw=L.rw.app n t∧L.appendE n t=L.rw.appE n t:=by
 unfold Lg.append Rw.app Lg.appendE Rw.appE
 have e1:L.rw.at_=L.at_:=rfl
 have e2:L.fitsA n t↔appFits n t:=Iff.rfl
 simp only [e1,e2]
 by_cases hA:appFits n t
 ·by_cases hr:L.at_+1028≤67108864
  ·obtain ⟨a1,a2,a3⟩:=hA
   have hz:(Fr.bytes ⟨n.toNat,t⟩).length=1028:=Fr.bytes_len _ a3
   have hw:L.rw.D.writeE 1 L.at_ (frB n t)=L.D.turnE:=writeE_fits (f:=1) ⟨by omega,by unfold frB;rw [bsOf_size,hz];exact hr⟩
   have ha:appFits n t:=⟨a1,a2,a3⟩
   have hc:appFits n t∧L.at_+1028≤67108864:=⟨ha,hr⟩
   rw [if_pos hc,if_pos hc,if_pos ha,if_pos hr,if_pos ha,if_pos hr,hw]
   refine ⟨?_,rfl⟩
   by_cases hs:L.D.stops
   ·rw [if_pos hs,if_neg (by rw [turnE_zero];exact fun h2=>h2 hs)];rfl
   ·rw [if_neg hs,if_pos ((turnE_zero _).2 hs)]
    refine rw_eq rfl ?_ rfl (fun x=>?_) rfl rfl (fun x=>?_) rfl rfl
    ·show (L.fs++[_]).length=L.fs.length+1
     rw [List.length_append];rfl
    ·show lastAt (L.fs++[_]) x=if x=n then L.fs.length+1 else lastAt L.fs x
     rw [lastAt_snoc]
     have e3:((n.toNat:Nat):Int)=n:=Int.toNat_of_nonneg a1
     show (if ((n.toNat:Nat):Int)=x then _ else _)=_
     rw [e3]
     by_cases hx:n=x
     ·rw [if_pos hx,if_pos hx.symm]
     ·rw [if_neg hx,if_neg (fun e=>hx e.symm)]
    ·show lastAt ((L.fs++[_]).take L.kept) x=lastAt (L.fs.take L.kept) x
     rw [List.take_append_of_le_length h.kept]
  ·rw [if_neg (fun h2=>hr h2.2),if_neg (fun h2=>hr h2.2),if_pos hA,if_neg hr,if_pos hA,if_neg hr];exact ⟨rfl,rfl⟩
 ·rw [if_neg (fun h2=>hA h2.1),if_neg (fun h2=>hA h2.1),if_neg hA,if_neg hA];exact ⟨rfl,rfl⟩
theorem rw_tellW {L:Lg} (h:L.ok) (f p:Nat):L.rw.tellW f p=L.D.turnE :=
 writeE_fits (f:=1) ⟨by omega,by rw [bsOf_size,slotL_len];omega⟩
theorem rw_tellE {L:Lg} (h:L.ok) (f p:Nat):L.tellE f p=L.rw.tellE f p:=by
 unfold Lg.tellE Rw.tellE
 rw [rw_tellW h]
 by_cases hs:L.D.stops
 ·rw [if_pos hs,if_pos (by unfold Dk.turnE;rw [if_pos hs];decide)];unfold Dk.turnE;rw [if_pos hs]
 ·rw [if_neg hs,if_neg (by rw [(turnE_zero _).2 hs];simp)]
  exact (syncE_fits (D:=L.tellD f p) (f:=1) (by omega)).symm
theorem rw_tell {L:Lg} (h:L.ok) (f p:Nat):(L.tell f p).rw=if L.tellE f p=0 then { L.rw.tell f p with np:=p,kf:=f,kp:=p,f2:=fun x=>lastAt (L.fs.take f) x } else L.rw.tell f p:=by
 have hW:=rw_tellW h f p
 have e3:(L.rw.tellD f p).syncE 1=(L.tellD f p).turnE:=syncE_fits (f:=1) (by omega)
 by_cases hs:L.D.stops
 ·have e2:L.D.turnE=2:=if_pos hs
  have a1:L.tellE f p=2:=if_pos hs
  have a2:L.tell f p={ L with D:=L.tellD f p }:=if_pos hs
  have a3:L.rw.tell f p={ L.rw with D:=L.rw.tellD f p }:=if_pos (by rw [hW,e2];decide)
  rw [a1,a2,a3,if_neg (by decide)];rfl
 ·have e0:=(turnE_zero _).2 hs
  have n0:¬ (L.rw.tellW f p≠0):=by rw [hW,e0];simp
  have a1:L.tellE f p=(L.tellD f p).turnE:=if_neg hs
  by_cases h2:(L.tellD f p).stops
  ·have e2:(L.tellD f p).turnE=2:=if_pos h2
   have a2:L.tell f p={ L with D:=(L.tellD f p).sync 1 }:=(if_neg hs).trans (if_pos h2)
   have a3:L.rw.tell f p={ L.rw with D:=(L.rw.tellD f p).sync 1 }:=(if_neg n0).trans (if_pos (by rw [e3,e2];decide))
   rw [a1,a2,a3,e2,if_neg (by decide)];rfl
  ·have e2:(L.tellD f p).turnE=0:=(turnE_zero _).2 h2
   have a2:L.tell f p={ L with D:=(L.tellD f p).sync 1,slot:=1-L.slot,number:=L.number % 3+1,kept:=f,pages:=p }:=(if_neg hs).trans (if_neg h2)
   have a3:L.rw.tell f p={ L.rw with D:=(L.rw.tellD f p).sync 1,slot:=1-L.rw.slot,number:=L.rw.number % 3+1 }:=(if_neg n0).trans (if_neg (by rw [e3,e2];simp))
   rw [a1,a2,a3,e2,if_pos rfl];rfl
theorem tell_same (R:Rw) (f p:Nat):(R.tell f p).nf=R.nf∧(R.tell f p).f1=R.f1∧(R.tell f p).kp=R.kp∧(R.tell f p).np=R.np∧(R.tell f p).kf=R.kf∧(R.tell f p).f2=R.f2:=by
 unfold Rw.tell;split
 ·exact ⟨rfl,rfl,rfl,rfl,rfl,rfl⟩
 ·split <;> exact ⟨rfl,rfl,rfl,rfl,rfl,rfl⟩
theorem rw_commit {L:Lg} (h:L.ok) (n:Int) (t:ByteArray) (p:Int):(L.commit n t p).rw=L.rw.commit n t p∧L.commitE n t p=L.rw.commitE n t p:=by
 obtain ⟨a1,a2⟩:=rw_app h n t
 by_cases hp:1≤p∧p≤65536
 ·have r1:L.rw.commit n t p=if (upTo (commitEs L.rw n t p.toNat) 3).2=0 then { commitR L.rw n t p.toNat (upTo (commitEs L.rw n t p.toNat) 3).1 with np:=p.toNat,kf:=(commitR L.rw n t p.toNat (upTo (commitEs L.rw n t p.toNat) 3).1).nf,kp:=p.toNat,f2:=(commitR L.rw n t p.toNat (upTo (commitEs L.rw n t p.toNat) 3).1).f1 } else commitR L.rw n t p.toNat (upTo (commitEs L.rw n t p.toNat) 3).1:=if_pos hp
  have r2:L.rw.commitE n t p=(upTo (commitEs L.rw n t p.toNat) 3).2:=if_pos hp
  have c0:commitEs L.rw n t p.toNat 0=L.appendE n t:=a2.symm
  have aD:(L.rw.app n t).D=(L.append n t).D:=by rw [← a1];rfl
  have c1:commitEs L.rw n t p.toNat 1=(L.append n t).D.turnE:=by
   show (L.rw.app n t).D.syncE 1=_
   rw [aD];exact syncE_fits (f:=1) (by omega)
  rw [r1,r2]
  by_cases h0:L.appendE n t=0
  ·by_cases hs:(L.append n t).D.stops
   ·have e2:(L.append n t).D.turnE=2:=if_pos hs
    have u:upTo (commitEs L.rw n t p.toNat) 3=(2,2):=by rw [upTo3,c0,c1,if_neg (fun h2=>h2 h0),e2,if_pos (by decide)]
    have l1:L.commit n t p={ L.append n t with D:=(L.append n t).D.sync 1 }:=(if_pos hp).trans ((if_pos h0).trans (if_pos hs))
    have l2:L.commitE n t p=2:=(if_pos hp).trans ((if_pos h0).trans (if_pos hs))
    rw [u,l1,l2]
    refine ⟨?_,rfl⟩
    rw [if_neg (by decide)]
    show ({ L.append n t with D:=(L.append n t).D.sync 1 }:Lg).rw={ L.rw.app n t with D:=(L.rw.app n t).D.sync 1 }
    rw [← a1];rfl
   ·have e2:(L.append n t).D.turnE=0:=(turnE_zero _).2 hs
    have u:upTo (commitEs L.rw n t p.toNat) 3=(3,commitEs L.rw n t p.toNat 2):=by rw [upTo3,c0,c1,if_neg (fun h2=>h2 h0),e2,if_neg (fun h2=>h2 rfl)]
    have l1:L.commit n t p=({ L.append n t with D:=(L.append n t).D.sync 1 }:Lg).tell (L.append n t).fs.length p.toNat:=(if_pos hp).trans ((if_pos h0).trans (if_neg hs))
    have l2:L.commitE n t p=({ L.append n t with D:=(L.append n t).D.sync 1 }:Lg).tellE (L.append n t).fs.length p.toNat:=(if_pos hp).trans ((if_pos h0).trans (if_neg hs))
    have hA:({ L.append n t with D:=(L.append n t).D.sync 1 }:Lg).ok:=(append_ok h n t).sync1 1 (by omega)
    have hR:({ L.rw.app n t with D:=(L.rw.app n t).D.sync 1 }:Rw)=({ L.append n t with D:=(L.append n t).D.sync 1 }:Lg).rw:=by rw [← a1];rfl
    have hn:(L.rw.app n t).nf=(L.append n t).fs.length:=by rw [← a1];rfl
    have c2:commitEs L.rw n t p.toNat 2=({ L.append n t with D:=(L.append n t).D.sync 1 }:Lg).rw.tellE (L.append n t).fs.length p.toNat:=by
     show ({ L.rw.app n t with D:=(L.rw.app n t).D.sync 1 }:Rw).tellE (L.rw.app n t).nf p.toNat=_
     rw [hR,hn]
    have c3:commitR L.rw n t p.toNat 3=({ L.append n t with D:=(L.append n t).D.sync 1 }:Lg).rw.tell (L.append n t).fs.length p.toNat:=by
     show ({ L.rw.app n t with D:=(L.rw.app n t).D.sync 1 }:Rw).tell (L.rw.app n t).nf p.toNat=_
     rw [hR,hn]
    have hf:({ L.append n t with D:=(L.append n t).D.sync 1 }:Lg).fs=(L.append n t).fs:=rfl
    rw [u,l1,l2]
    generalize ({ L.append n t with D:=(L.append n t).D.sync 1 }:Lg)=M at *
    have b1:=rw_tell hA (L.append n t).fs.length p.toNat
    have b2:=rw_tellE hA (L.append n t).fs.length p.toNat
    dsimp only
    rw [c2,c3,← b2]
    refine ⟨?_,rfl⟩
    rw [b1]
    by_cases ht:M.tellE (L.append n t).fs.length p.toNat=0
    ·rw [if_pos ht,if_pos ht]
     obtain ⟨s1,s2,_⟩:=tell_same M.rw (L.append n t).fs.length p.toNat
     dsimp only
     have q1:(fun x=>lastAt (M.fs.take (L.append n t).fs.length) x)=M.rw.f1:=funext fun x=>by
      show lastAt (M.fs.take (L.append n t).fs.length) x=lastAt M.fs x
      rw [← hf,List.take_length]
     have q2:(L.append n t).fs.length=M.rw.nf:=by rw [← hf];rfl
     rw [s1,s2,q1,← q2]
    ·rw [if_neg ht,if_neg ht]
  ·have u:upTo (commitEs L.rw n t p.toNat) 3=(1,L.appendE n t):=by rw [upTo3,c0,if_pos h0]
   have l1:L.commit n t p=L.append n t:=(if_pos hp).trans (if_neg h0)
   have l2:L.commitE n t p=L.appendE n t:=(if_pos hp).trans (if_neg h0)
   rw [u,l1,l2]
   refine ⟨?_,rfl⟩
   dsimp only
   rw [if_neg h0];exact a1
 ·exact ⟨(congrArg Lg.rw (if_neg hp)).trans (if_neg hp).symm,(if_neg hp).trans (if_neg hp).symm⟩
end Go.Proofs.YtjihboddejaelaaGreat
namespace Go.Proofs.YtjihboddejaelaaGreat
open Go.RowKit
def Rw.at1 (R:Rw) (n:Int):Int:=64+((R.f1 n:Int)-1)*1028+4
def Rw.readS (R:Rw) (n:Int):ByteArray :=
 if 0≤n∧n≤2147483647 then
  if R.f1 n≠0 then R.D.readS 1 (R.at1 n) 1024
  else if R.D.sizeE 0≠0 then ⟨#[]⟩ else if R.D.sizeN 0 / 1024≤n then ⟨#[]⟩ else R.D.readS 0 (n*1024) 1024
 else ⟨#[]⟩
def Rw.readE (R:Rw) (n:Int):Int :=
 if 0≤n∧n≤2147483647 then
  if R.f1 n≠0 then R.D.readE 1 (R.at1 n) 1024
  else if R.D.sizeE 0≠0 then R.D.sizeE 0 else if R.D.sizeN 0 / 1024≤n then 7 else R.D.readE 0 (n*1024) 1024
 else 1
def Rw.put1 (R:Rw) (m:Nat):Rw:=if R.f1 m=0 then R else if R.readE m≠0 then R else { R with D:=R.D.write 0 (m*1024:Nat) (R.readS m) }
def Rw.put1E (R:Rw) (m:Nat):Int:=if R.f1 m=0 then 0 else if R.readE m≠0 then R.readE m else R.D.writeE 0 (m*1024:Nat) (R.readS m)
def Rw.puts:Nat→Nat→Rw→Rw×Int
 | 0,_,R=>(R,0)
 | k+1,m,R=>if R.put1E m=0 then Rw.puts k (m+1) (R.put1 m) else (R.put1 m,R.put1E m)
def checkR (R:Rw) (p:Nat):Nat→Rw
 | 0=>R
 | 1=>{ R with D:=R.D.cutD 0 (p*1024:Nat) }
 | 2=>{ R with D:=(R.D.cutD 0 (p*1024:Nat)).sync 0 }
 | _=>({ R with D:=(R.D.cutD 0 (p*1024:Nat)).sync 0 }:Rw).tell 0 p
def checkEs (R:Rw) (p:Nat):Nat→Int
 | 0=>R.D.cutE 0 (p*1024:Nat)
 | 1=>(R.D.cutD 0 (p*1024:Nat)).syncE 0
 | _=>({ R with D:=(R.D.cutD 0 (p*1024:Nat)).sync 0 }:Rw).tellE 0 p
def Rw.check3 (R:Rw):Rw×Int :=
 let C:=checkR R R.np (upTo (checkEs R R.np) 3).1
 if (upTo (checkEs R R.np) 3).2=0 then ({ C with nf:=0,np:=C.kp,f1:=fun _=>0,kf:=0,kp:=C.kp,f2:=fun _=>0 },0) else (C,(upTo (checkEs R R.np) 3).2)
def Rw.checkpoint (R:Rw):Rw×Int :=
 if R.nf≠R.kf then (R,11) else if R.nf=0 then (R,0)
 else if (Rw.puts R.np 0 R).2≠0 then Rw.puts R.np 0 R else (Rw.puts R.np 0 R).1.check3
theorem frame_read {L:Lg} (h:L.ok) {i:Nat} {f:Fr} (hf:L.fs[i]? = some f):partL (L.D.seen 1) (64+1028*i+4) 1024=f.text.data.toList:=by
 have h1:=h.lies i f hf
 have h2:=(h.frames f (List.mem_of_getElem? hf)).2
 rw [← partL_part (L.D.seen 1) (64+1028*i) 1028 4 1024 (by omega),h1]
 unfold partL Fr.bytes
 rw [List.drop_append_of_le_length (by rw [beK_len];omega),List.drop_of_length_le (by rw [beK_len];omega),List.nil_append,List.take_of_length_le (by rw [Array.length_toList];show f.text.size≤_;omega)]
theorem rw_at {L:Lg} (h:L.ok) (hd:L.D.down=false) {n:Int} (hn:lastAt L.fs n≠0):L.rw.D.readE 1 (L.rw.at1 n) 1024=0∧L.rw.D.readS 1 (L.rw.at1 n) 1024=((L.fs[lastAt L.fs n-1]?).map (·.text)).getD ⟨#[]⟩:=by
 obtain ⟨f,hf,_⟩:=lastAt_get L.fs n hn
 have h1:=h.there hf
 have h2:=h.disk.seen 1
 have e1:L.rw.at1 n=(64+1028*(lastAt L.fs n-1)+4:Nat):=by
  unfold Rw.at1
  show 64+((lastAt L.fs n:Int)-1)*1028+4=_
  omega
 have hF:fitsF 1 (64+1028*(lastAt L.fs n-1)+4:Nat) 1024:=by unfold fitsF;omega
 rw [e1,hf]
 unfold Dk.readE Dk.readS
 rw [if_pos hF]
 constructor
 ·show (if L.D.down=true then 2 else if ((64+1028*(lastAt L.fs n-1)+4:Nat):Int)+1024≤((L.D.seen 1).length:Int) then 0 else 3)=(0:Int)
  rw [if_neg (by rw [hd];decide),if_pos (by omega)]
 ·rw [if_pos ⟨hF,hd,by show ((64+1028*(lastAt L.fs n-1)+4:Nat):Int)+1024≤((L.D.seen 1).length:Int);omega⟩]
  show bsOf (partL (L.D.seen 1) (64+1028*(lastAt L.fs n-1)+4) 1024)=f.text
  rw [frame_read h hf,bsOf_of]
theorem rw_read {L:Lg} (h:L.ok) (hd:L.D.down=false) (n:Int):L.readS n=L.rw.readS n∧L.readE n=L.rw.readE n:=by
 by_cases hn:0≤n∧n≤2147483647
 ·have hn2:0≤n∧n≤2147483647∧L.D.down=false:=⟨hn.1,hn.2,hd⟩
  have nd:¬ (L.D.down=true):=by rw [hd];decide
  by_cases hl:lastAt L.fs n≠0
  ·obtain ⟨r1,r2⟩:=rw_at h hd hl
   have hl2:L.rw.f1 n≠0:=hl
   exact ⟨((if_pos hn2).trans (if_pos hl)).trans (r2.symm.trans ((if_pos hn).trans (if_pos hl2)).symm),((if_pos hn).trans ((if_neg nd).trans (if_pos hl))).trans (r1.symm.trans ((if_pos hn).trans (if_pos hl2)).symm)⟩
  ·have h0:=h.disk.seen 0
   have hl2:¬ L.rw.f1 n≠0:=hl
   have s1:L.rw.D.sizeE 0=0:=(if_pos (show (0:Int)≤0∧(0:Int)<2 by omega)).trans (if_neg nd)
   have s1':¬ (L.rw.D.sizeE 0≠0):=fun h2=>h2 s1
   have s2:L.rw.D.sizeN 0=((L.D.seen 0).length:Int):=if_pos ⟨by omega,by omega,hd⟩
   by_cases hx:n<((L.D.seen 0).length / 1024:Nat)
   ·have hF:fitsF 0 (n*1024) 1024:=by unfold fitsF;omega
    have hx2:¬ (L.rw.D.sizeN 0 / 1024≤n):=by rw [s2];omega
    have hle:n*1024+1024≤((L.D.seen 0).length:Int):=by omega
    have q1:L.rw.D.readE 0 (n*1024) 1024=0:=(if_pos hF).trans ((if_neg nd).trans (if_pos hle))
    have q2:L.rw.D.readS 0 (n*1024) 1024=bsOf (partL (L.D.seen 0) (1024*n.toNat) 1024):=by
     refine (if_pos ⟨hF,hd,hle⟩).trans ?_
     show bsOf (((L.D.seen 0).drop (n*1024).toNat).take 1024)=bsOf (((L.D.seen 0).drop (1024*n.toNat)).take 1024)
     rw [show (n*1024).toNat=1024*n.toNat by omega]
    exact ⟨((if_pos hn2).trans ((if_neg hl).trans (if_pos hx))).trans (q2.symm.trans ((if_pos hn).trans ((if_neg hl2).trans ((if_neg s1').trans (if_neg hx2)))).symm),
     ((if_pos hn).trans ((if_neg nd).trans ((if_neg hl).trans (if_pos hx)))).trans (q1.symm.trans ((if_pos hn).trans ((if_neg hl2).trans ((if_neg s1').trans (if_neg hx2)))).symm)⟩
   ·have hx2:L.rw.D.sizeN 0 / 1024≤n:=by rw [s2];omega
    exact ⟨((if_pos hn2).trans ((if_neg hl).trans (if_neg hx))).trans ((if_pos hn).trans ((if_neg hl2).trans ((if_neg s1').trans (if_pos hx2)))).symm,
     ((if_pos hn).trans ((if_neg nd).trans ((if_neg hl).trans (if_neg hx)))).trans ((if_pos hn).trans ((if_neg hl2).trans ((if_neg s1').trans (if_pos hx2)))).symm⟩
 ·exact ⟨(if_neg (fun h2=>hn ⟨h2.1,h2.2.1⟩)).trans (if_neg hn).symm,(if_neg hn).trans (if_neg hn).symm⟩
theorem write_down {D:Dk} {f a:Int} {s:ByteArray} (hd:D.down=false) (he:D.writeE f a s=0):(D.write f a s).down=false:=by
 unfold Dk.writeE at he
 unfold Dk.write
 split at he
 ·rename_i hf
  rw [if_pos hf]
  have hs:=(turnE_zero D).1 he
  unfold Dk.change
  rw [if_neg hs]
  show D.turn.down=false
  unfold Dk.turn
  rw [if_neg hs];exact hd
 ·cases he
theorem rw_put1 {L:Lg} (h:L.ok) (hd:L.D.down=false) (m:Nat):({ L with D:=L.put1 L.D m }:Lg).rw=L.rw.put1 m∧L.put1E L.D m=L.rw.put1E m:=by
 unfold Lg.put1 Rw.put1 Lg.put1E Rw.put1E
 by_cases hl:lastAt L.fs m≠0
 ·have hl2:¬ L.rw.f1 m=0:=hl
  rw [if_pos hl,if_pos hl,if_neg hl2,if_neg hl2]
  obtain ⟨r1,r2⟩:=rw_read h hd m
  by_cases hm:m≤2147483647
  ·have hn:0≤(m:Int)∧(m:Int)≤2147483647:=by omega
   have e1:L.rw.readS m=((L.fs[lastAt L.fs m-1]?).map (·.text)).getD ⟨#[]⟩:=by
    rw [← r1];unfold Lg.readS;rw [if_pos ⟨hn.1,hn.2,hd⟩,if_pos hl]
   have e2:L.rw.readE m=0:=by
    rw [← r2];unfold Lg.readE;rw [if_pos hn,if_neg (by rw [hd];decide),if_pos hl]
   rw [e2,if_neg (by simp),if_neg (by simp),e1,Nat.mul_comm m 1024]
   exact ⟨rfl,rfl⟩
  ·have e2:L.rw.readE m=1:=by
    rw [← r2];unfold Lg.readE;rw [if_neg (by omega)]
   have hF:∀ s:ByteArray,¬ fitsF 0 (1024*m:Nat) s.size:=fun s=>by unfold fitsF;omega
   rw [e2,if_pos (by decide),if_pos (by decide)]
   unfold Dk.write Dk.writeE
   rw [if_neg (hF _),if_neg (hF _)]
   exact ⟨rfl,rfl⟩
 ·have hl2:L.rw.f1 m=0:=Classical.byContradiction fun h2=>hl h2
  rw [if_neg hl,if_neg hl,if_pos hl2,if_pos hl2]
  exact ⟨rfl,rfl⟩
theorem put1_down {L:Lg} (hd:L.D.down=false) (m:Nat) (he:L.put1E L.D m=0):(L.put1 L.D m).down=false:=by
 unfold Lg.put1E at he
 unfold Lg.put1
 split
 ·rename_i hl
  rw [if_pos hl] at he
  exact write_down hd he
 ·exact hd
theorem puts_D (L:Lg) (X:Dk):∀ (k m:Nat) (D:Dk),({ L with D:=X }:Lg).puts k m D=L.puts k m D
 | 0,m,D=>rfl
 | k+1,m,D=>by
   rw [Lg.puts,Lg.puts,puts_D L X k]
   rfl
theorem rw_puts:∀ (k m:Nat) (L:Lg),L.ok→L.D.down=false→({ L with D:=(L.puts k m L.D).1 }:Lg).rw=(Rw.puts k m L.rw).1∧(L.puts k m L.D).2=(Rw.puts k m L.rw).2∧((L.puts k m L.D).2=0→(L.puts k m L.D).1.down=false)
 | 0,m,L,h,hd=>⟨rfl,rfl,fun _=>hd⟩
 | k+1,m,L,h,hd=>by
   obtain ⟨p1,p2⟩:=rw_put1 h hd m
   rw [Lg.puts,Rw.puts,← p2]
   by_cases he:L.put1E L.D m=0
   ·rw [if_pos he,if_pos he]
    obtain ⟨o1,o2⟩:=put1_ok L h.disk m
    have ih:=rw_puts k (m+1) { L with D:=L.put1 L.D m } (h.same o1 o2) (put1_down hd m he)
    rw [puts_D,p1] at ih
    exact ih
   ·rw [if_neg he,if_neg he]
    exact ⟨p1,rfl,fun h2=>absurd h2 he⟩
theorem rw_check3 {L:Lg} (h:L.ok):(L.check3 L.D).1.rw=L.rw.check3.1∧(L.check3 L.D).2=L.rw.check3.2:=by
 have r0:L.rw.check3=if (upTo (checkEs L.rw L.rw.np) 3).2=0 then ({ checkR L.rw L.rw.np (upTo (checkEs L.rw L.rw.np) 3).1 with nf:=0,np:=(checkR L.rw L.rw.np (upTo (checkEs L.rw L.rw.np) 3).1).kp,f1:=fun _=>0,kf:=0,f2:=fun _=>0 },0) else (checkR L.rw L.rw.np (upTo (checkEs L.rw L.rw.np) 3).1,(upTo (checkEs L.rw L.rw.np) 3).2):=rfl
 have c0:checkEs L.rw L.rw.np 0=L.D.cutE 0 (1024*L.pages:Nat):=by rw [Nat.mul_comm];rfl
 have c1:checkEs L.rw L.rw.np 1=(L.D.cutD 0 (1024*L.pages:Nat)).turnE:=by
  rw [Nat.mul_comm];exact syncE_fits (f:=0) (by omega)
 have eM:({ L.rw with D:=(L.rw.D.cutD 0 (L.rw.np*1024:Nat)).sync 0 }:Rw)=({ L with D:=(L.D.cutD 0 (1024*L.pages:Nat)).sync 0 }:Lg).rw:=by rw [Nat.mul_comm];rfl
 rw [r0]
 by_cases h0:L.D.cutE 0 (1024*L.pages:Nat)≠0
 ·have u:upTo (checkEs L.rw L.rw.np) 3=(1,L.D.cutE 0 (1024*L.pages:Nat)):=by rw [upTo3,c0,if_pos h0]
  have l1:L.check3 L.D=({ L with D:=L.D.cutD 0 (1024*L.pages:Nat) },L.D.cutE 0 (1024*L.pages:Nat)):=if_pos h0
  rw [u,l1]
  dsimp only
  rw [if_neg h0]
  refine ⟨?_,rfl⟩
  show _=({ L.rw with D:=L.rw.D.cutD 0 (L.rw.np*1024:Nat) }:Rw)
  rw [Nat.mul_comm 1024 L.pages];rfl
 ·by_cases hs:(L.D.cutD 0 (1024*L.pages:Nat)).stops
  ·have e2:(L.D.cutD 0 (1024*L.pages:Nat)).turnE=2:=if_pos hs
   have u:upTo (checkEs L.rw L.rw.np) 3=(2,2):=by rw [upTo3,c0,c1,if_neg h0,e2,if_pos (by decide)]
   have l1:L.check3 L.D=({ L with D:=(L.D.cutD 0 (1024*L.pages:Nat)).sync 0 },2):=(if_neg h0).trans (if_pos hs)
   rw [u,l1]
   dsimp only
   rw [if_neg (by decide)]
   refine ⟨?_,rfl⟩
   show _=({ L.rw with D:=(L.rw.D.cutD 0 (L.rw.np*1024:Nat)).sync 0 }:Rw)
   rw [eM]
  ·have e2:(L.D.cutD 0 (1024*L.pages:Nat)).turnE=0:=(turnE_zero _).2 hs
   have cok:(L.D.cutD 0 (1024*L.pages:Nat)).ok:=Dk.cut_ok h.disk _ _
   have cs:((L.D.cutD 0 (1024*L.pages:Nat)).sync 0).seen 1=L.D.seen 1:=(sync_seen _ 0 (by omega) 1 (by omega)).trans (cut_seen L.D 0 (1024*L.pages) 1 (by omega))
   have hM:({ L with D:=(L.D.cutD 0 (1024*L.pages:Nat)).sync 0 }:Lg).ok:=h.same (Dk.sync_ok cok 0) cs
   have c2:checkEs L.rw L.rw.np 2=({ L with D:=(L.D.cutD 0 (1024*L.pages:Nat)).sync 0 }:Lg).rw.tellE 0 L.pages:=by
    show ({ L.rw with D:=(L.rw.D.cutD 0 (L.rw.np*1024:Nat)).sync 0 }:Rw).tellE 0 L.rw.np=_
    rw [eM];rfl
   have c3:checkR L.rw L.rw.np 3=({ L with D:=(L.D.cutD 0 (1024*L.pages:Nat)).sync 0 }:Lg).rw.tell 0 L.pages:=by
    show ({ L.rw with D:=(L.rw.D.cutD 0 (L.rw.np*1024:Nat)).sync 0 }:Rw).tell 0 L.rw.np=_
    rw [eM];rfl
   have u:upTo (checkEs L.rw L.rw.np) 3=(3,checkEs L.rw L.rw.np 2):=by rw [upTo3,c0,c1,if_neg h0,e2,if_neg (fun h2=>h2 rfl)]
   have l1:L.check3 L.D=(if ({ L with D:=(L.D.cutD 0 (1024*L.pages:Nat)).sync 0 }:Lg).tellE 0 L.pages=0 then ({ ({ L with D:=(L.D.cutD 0 (1024*L.pages:Nat)).sync 0 }:Lg).tell 0 L.pages with fs:=[] },0) else (({ L with D:=(L.D.cutD 0 (1024*L.pages:Nat)).sync 0 }:Lg).tell 0 L.pages,({ L with D:=(L.D.cutD 0 (1024*L.pages:Nat)).sync 0 }:Lg).tellE 0 L.pages)):=(if_neg h0).trans (if_neg hs)
   have hMp:L.pages=({ L with D:=(L.D.cutD 0 (1024*L.pages:Nat)).sync 0 }:Lg).pages:=rfl
   rw [u,l1]
   generalize ({ L with D:=(L.D.cutD 0 (1024*L.pages:Nat)).sync 0 }:Lg)=M at *
   dsimp only
   rw [c2,c3,hMp]
   have b1:=rw_tell hM 0 M.pages
   have b2:=rw_tellE hM 0 M.pages
   rw [← b2]
   by_cases ht:M.tellE 0 M.pages=0
   ·rw [if_pos ht] at b1
    rw [if_pos ht,if_pos ht]
    obtain ⟨_,_,g,_⟩:=tell_same M.rw 0 M.pages
    have gk:(M.tell 0 M.pages).kept=0∧(M.tell 0 M.pages).pages=M.pages∧(M.tell 0 M.pages).D=(M.rw.tell 0 M.pages).D∧(M.tell 0 M.pages).slot=(M.rw.tell 0 M.pages).slot∧(M.tell 0 M.pages).number=(M.rw.tell 0 M.pages).number :=
     ⟨congrArg Rw.kf b1,congrArg Rw.kp b1,congrArg Rw.D b1,congrArg Rw.slot b1,congrArg Rw.number b1⟩
    refine ⟨?_,rfl⟩
    exact rw_eq gk.2.2.1 rfl (gk.2.1.trans g.symm) (fun x=>rfl) gk.1 (gk.2.1.trans g.symm) (fun x=>by show lastAt (List.take _ []) x=0;rw [List.take_nil];rfl) gk.2.2.2.1 gk.2.2.2.2
   ·rw [if_neg ht] at b1
    rw [if_neg ht,if_neg ht]
    exact ⟨b1,rfl⟩
theorem rw_checkpoint {L:Lg} (h:L.ok) (hd:L.D.down=false):L.checkpoint.1.rw=L.rw.checkpoint.1∧L.checkpoint.2=L.rw.checkpoint.2:=by
 obtain ⟨q1,q2,q3⟩:=rw_puts L.pages 0 L h hd
 obtain ⟨o1,o2⟩:=puts_ok L L.pages 0 L.D h.disk
 by_cases h1:L.fs.length≠L.kept
 ·have a1:L.checkpoint=(L,11):=if_pos h1
  have a2:L.rw.checkpoint=(L.rw,11):=if_pos (show L.rw.nf≠L.rw.kf from h1)
  rw [a1,a2];exact ⟨rfl,rfl⟩
 ·have h1':L.fs.length=L.kept:=Classical.byContradiction h1
  have m1:¬ (L.rw.nf≠L.rw.kf):=h1
  by_cases h2:L.kept=0
  ·have a1:L.checkpoint=(L,0):=(if_neg h1).trans (if_pos h2)
   have a2:L.rw.checkpoint=(L.rw,0):=(if_neg m1).trans (if_pos (show L.rw.nf=0 from h1'.trans h2))
   rw [a1,a2];exact ⟨rfl,rfl⟩
  ·have m2:¬ (L.rw.nf=0):=fun e=>h2 (h1'.symm.trans e)
   have np:L.rw.np=L.pages:=rfl
   by_cases h3:(L.puts L.pages 0 L.D).2≠0
   ·have a1:L.checkpoint=({ L with D:=(L.puts L.pages 0 L.D).1 },(L.puts L.pages 0 L.D).2):=(if_neg h1).trans ((if_neg h2).trans (if_pos h3))
    have a2:L.rw.checkpoint=Rw.puts L.rw.np 0 L.rw:=(if_neg m1).trans ((if_neg m2).trans (if_pos (by rw [np,← q2];exact h3)))
    rw [a1,a2]
    exact ⟨q1,q2⟩
   ·have a1:L.checkpoint=L.check3 (L.puts L.pages 0 L.D).1:=(if_neg h1).trans ((if_neg h2).trans (if_neg h3))
    have a2:L.rw.checkpoint=(Rw.puts L.rw.np 0 L.rw).1.check3:=(if_neg m1).trans ((if_neg m2).trans (if_neg (by rw [np,← q2];exact h3)))
    rw [a1,a2,np,← q1]
    exact rw_check3 (h.same o1 o2)
end Go.Proofs.YtjihboddejaelaaGreat
