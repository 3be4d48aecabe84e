/-
  last of package wal: the commit that a log's text tells last.
-/
import Derived.Test.YtjihboddejaelaaGreatPr8
import Derived.Test.YtjihboddejaelaaGreatPr5
import Derived.Test.YtjihboddejaelaaGreatPr9
import Derived.Test.YtjihboddejaelaaGreatPr13
import Derived.Test.YtjihboddejaelaaGreatShelf
import Derived.Test.YtjihboddejaelaaGreatPr11
set_option linter.unusedVariables false
set_option linter.unusedSimpArgs false
namespace Go.Proofs.YtjihboddejaelaaGreat
open Go.RowKit
open Go.BigFrame
open Go.Maps
structure LastSt where
 sl:Nat
 nu:Nat
 f:Nat
 p:Nat
def lastSt (l:List UInt8) (p0:Nat):Nat→LastSt
 | 0=>⟨0,0,0,p0⟩
 | k+1=>if (slotOf l k).1≠0∧((lastSt l p0 k).nu=0∨(slotOf l k).1=(lastSt l p0 k).nu % 3+1) then ⟨k,(slotOf l k).1,(slotOf l k).2.1,(slotOf l k).2.2⟩ else lastSt l p0 k
def lastCells (gd:Nat) (a1 a2 a3 a6:Value) (S:LastSt):Array Value:=#[.pointer (some ⟨gd,0,none⟩),a1,a2,a3,.int .i64 S.f,.int .i64 S.p,a6,.int .i64 S.sl,.int .i64 S.nu]
def lastOf (l:List UInt8) (p0:Nat):LastSt:=if l.take 16=markL then lastSt l p0 2 else ⟨0,0,0,p0⟩
theorem lastOf_none {l:List UInt8} {p0:Nat} (h:slotIx l=2):lastOf l p0=⟨0,0,0,p0⟩:=by
 unfold lastOf
 split
 ·rename_i hm
  unfold slotIx at h
  split at h
  ·rename_i h1
   rcases h1 with h1 | h1
   ·exact absurd hm h1
   ·rw [lastSt,if_neg (fun h2=>h2.1 h1.2),lastSt,if_neg (fun h2=>h2.1 h1.1)];rfl
  ·split at h <;> cases h
 ·rfl
theorem lastOf_some {l:List UInt8} {p0:Nat} (h:slotIx l≠2):lastOf l p0=⟨slotIx l,(slotOf l (slotIx l)).1,(slotOf l (slotIx l)).2.1,(slotOf l (slotIx l)).2.2⟩:=by
 obtain ⟨g1,g2,hm⟩:=slotIx_good h
 unfold lastOf
 rw [if_pos hm]
 unfold slotIx at h
 split at h
 ·exact absurd rfl h
 ·rename_i h1
  have hix:slotIx l=if (slotOf l 0).1=0∨(slotOf l 1).1≠0∧(slotOf l 1).1=(slotOf l 0).1 % 3+1 then 1 else 0:=by unfold slotIx;rw [if_neg h1]
  rw [lastSt]
  by_cases h0:(slotOf l 0).1=0
  ·have e1:lastSt l p0 1=⟨0,0,0,p0⟩:=by rw [lastSt,if_neg (fun h2=>h2.1 h0)];rfl
   have n1:(slotOf l 1).1≠0:=fun e=>h1 (.inr ⟨h0,e⟩)
   rw [e1,if_pos ⟨n1,.inl rfl⟩,hix,if_pos (.inl h0)]
  ·have e1:lastSt l p0 1=⟨0,(slotOf l 0).1,(slotOf l 0).2.1,(slotOf l 0).2.2⟩:=by rw [lastSt,if_pos ⟨h0,.inl rfl⟩]
   rw [e1]
   by_cases h2:(slotOf l 1).1≠0∧(slotOf l 1).1=(slotOf l 0).1 % 3+1
   ·rw [if_pos ⟨h2.1,.inr h2.2⟩,hix,if_pos (.inr h2)]
   ·rw [if_neg (fun h3=>h3.2.elim h0 fun h4=>h2 ⟨h3.1,h4⟩),hix,if_neg (fun h3=>h3.elim h0 h2)]
def LastPost (w:World) (g gd:Nat) (a1 a2 a3 a6:Value) (S:LastSt) (e:Ending) (w':World):Prop :=
 e = .returned (.bool (decide (0<S.nu)))∧Has w' g 181 (lastCells gd a1 a2 a3 a6 S)∧Turn [some g] [some g] w w'
set_option maxRecDepth 100000 in
set_option maxHeartbeats 6400000 in
theorem wal_last (g gd p0:Nat) (a1 a2 a3 a6:Value) (s:ByteArray) (w:World) (h:Has w g 181 (lastCells gd a1 a2 a3 a6 ⟨0,0,0,p0⟩)) (hs:s.size≤67108864) :
 Calls Tryz.prog 112 #[.pointer (some ⟨g,0,none⟩),.string s] w (LastPost w g gd a1 a2 a3 a6 (lastOf s.data.toList p0)):=by
 by_cases hm:s.data.toList.take 16=markL
 ·have hz:16≤s.size:=by
   have:(s.data.toList.take 16).length=16:=by rw [hm];rfl
   rw [List.length_take,Array.length_toList] at this
   have e:s.data.size=s.size:=rfl
   omega
  have e1:s.extract 0 16=⟨#[114,101,108,115,116,111,114,101,32,108,111,103,32,48,48,49]⟩:=by
   rw [extr_part];show bsOf (partL _ 0 16)=_
   rw [partL_zero,hm];rfl
  have E:=Lib.hid (show lastOf s.data.toList p0=lastSt s.data.toList p0 2 from if_pos hm)
  have HS:=Lib.hid hs
  rw [E.out]
  have HH:=Lib.hid h
  have z0:¬ ((s.size:Int)<16):=by omega
  clear h hm E hs
  have SA:=Lib.hid (fun (k:Nat) (hk:k<2) w1=>wal_slotAt s k hk HS.out w1)
  go_enter Tryz.func112,Tryz.ntmps112
  generalize (⟨#[114,101,108,115,116,111,114,101,32,108,111,103,32,48,48,49]⟩:ByteArray)=MK at *
  go_wp2_with fail
  go_loopw [18] (fun v18 wr=>∃ k:Nat,k≤2∧v18 = .int .i64 k∧Has wr g 181 (lastCells gd a1 a2 a3 a6 (lastSt s.data.toList p0 k))∧Turn [some g] [some g] w wr) (fun v18 _=>2-(intOf v18).toNat)
  case atStart=>exact ⟨0,by omega,rfl,HH.out,Turn.refl _ _⟩
  case round =>
   obtain ⟨k,hk,rfl,hh,ht⟩:=hrel
   have HR:=Lib.hid hh
   have HT:=Lib.hid ht
   clear hh ht HH z0 e1 hz
   by_cases hk2:k<2
   ·have SK:=Lib.hid (SA.out k hk2)
    obtain ⟨S,hS⟩:∃ S,lastSt s.data.toList p0 k=S:=⟨_,rfl⟩
    have ES:=Lib.hid (show lastSt s.data.toList p0 (k+1)=if (slotOf s.data.toList k).1≠0∧(S.nu=0∨(slotOf s.data.toList k).1=S.nu % 3+1) then ⟨k,(slotOf s.data.toList k).1,(slotOf s.data.toList k).2.1,(slotOf s.data.toList k).2.2⟩ else S by rw [lastSt,hS])
    rw [hS] at HR
    clear SA hS
    go_upto_region 7 with (go_at_call 183;(with_reducible refine (SK.out _).mono ?_);rintro e w1 ⟨n,f,p,b,rfl,hsl,hb⟩;have HSL:=Lib.hid hsl;have H1:=Lib.hid (HR.out.belowS hb);have HT1:=Lib.hid (HT.out.trans (Turn.below _ hb));clear hsl hb)
    have x8:w1.cell? ⟨g,8,none⟩=some (.int .i64 S.nu):=H1.out.cell 8
    have x7:w1.cell? ⟨g,7,none⟩=some (.int .i64 S.sl):=H1.out.cell 7
    have x4:w1.cell? ⟨g,4,none⟩=some (.int .i64 S.f):=H1.out.cell 4
    have x5:w1.cell? ⟨g,5,none⟩=some (.int .i64 S.p):=H1.out.cell 5
    have xz:=H1.out.lt
    have xf:=H1.out.frozen
    cases b with
    | false =>
      have E1:=Lib.hid (show lastSt s.data.toList p0 (k+1)=S by
       have h0:=HSL.out.1
       rw [ES.out,if_neg]
       intro h2
       exact absurd h0.symm (by rw [decide_eq_true h2.1];decide))
      clear HSL ES
      go_wp2_with fail
      go_roundw
      case rel=>exact ⟨k+1,by omega,by simp,by rw [E1.out];exact H1.out,HT1.out⟩
      case measure=>simp [intOf];omega
    | true =>
      have hsl:=HSL.out.2 rfl
      have hn0:n≠0:=by
       have h0:=HSL.out.1
       rw [hsl] at h0
       exact of_decide_eq_true h0.symm
      rw [hsl] at ES
      simp only at ES
      have HSET:=Lib.hid (show Has ((((w1.setCell ⟨g,7,none⟩ (.int .i64 k)).setCell ⟨g,8,none⟩ (.int .i64 n)).setCell ⟨g,4,none⟩ (.int .i64 f)).setCell ⟨g,5,none⟩ (.int .i64 p)) g 181 (lastCells gd a1 a2 a3 a6 ⟨k,n,f,p⟩) from (((H1.out.set 7 _).set 8 _).set 4 _).set 5 _)
      have TSET:=Lib.hid (HT1.out.trans ((((Turn.cell g 7 (.int .i64 k) w1).trans (Turn.cell g 8 (.int .i64 n) _)).trans (Turn.cell g 4 (.int .i64 f) _)).trans (Turn.cell g 5 (.int .i64 p) _)))
      have EN:=Lib.hid hn0
      clear HSL hsl hn0
      by_cases h0:S.nu=0
      ·have E1:=Lib.hid (show lastSt s.data.toList p0 (k+1)=⟨k,n,f,p⟩ by rw [ES.out,if_pos ⟨EN.out,.inl h0⟩])
       have t0:(S.nu:Int)=0:=by omega
       rw [t0] at x8
       clear ES h0
       go_wp2_with fail
       go_roundw
       case rel=>exact ⟨k+1,by omega,by simp,by rw [E1.out];exact HSET.out,TSET.out⟩
       case measure=>simp [intOf];omega
      ·have t0:((S.nu:Int) == 0)=false:=by simp;exact h0
       by_cases h1:n=S.nu % 3+1
       ·have E1:=Lib.hid (show lastSt s.data.toList p0 (k+1)=⟨k,n,f,p⟩ by rw [ES.out,if_pos ⟨EN.out,.inr h1⟩])
        have T1:=Lib.hid (show (n:Int)=(S.nu:Int) % 3+1 by omega)
        have t2:((n:Int) == (S.nu:Int) % 3+1)=true:=by simp;omega
        clear ES h0 h1
        go_wp2_with fail
        go_roundw
        case rel =>
         have q1:=HSET.out
         have q2:=TSET.out
         exact ⟨k+1,by omega,by simp,by rw [E1.out];exact q1,q2⟩
        case measure=>simp [intOf];omega
       ·have E1:=Lib.hid (show lastSt s.data.toList p0 (k+1)=S by rw [ES.out,if_neg (fun h2=>h2.2.elim h0 h1)])
        have t2:((n:Int) == (S.nu:Int) % 3+1)=false:=by rw [beq_eq_false_iff_ne];omega
        clear ES h0 h1
        go_wp2_with fail
        go_roundw
        case rel=>exact ⟨k+1,by omega,by simp,by rw [E1.out];exact H1.out,HT1.out⟩
        case measure=>simp [intOf];omega
   ·obtain rfl:k=2:=by omega
    have x8:=HR.out.cell 8
    have xz:=HR.out.lt
    simp only [lastCells] at x8
    go_wp2_with fail
    go_ret
    exact ⟨rfl,HR.out,HT.out⟩
 ·have E:=Lib.hid (show lastOf s.data.toList p0=⟨0,0,0,p0⟩ from if_neg hm)
  rw [E.out]
  have HH:=Lib.hid h
  by_cases hz:s.size<16
  ·have z0:(s.size:Int)<16:=by omega
   clear h hm hz
   go_enter Tryz.func112,Tryz.ntmps112
   generalize (⟨#[114,101,108,115,116,111,114,101,32,108,111,103,32,48,48,49]⟩:ByteArray)=MK at *
   go_wp2_with fail
   go_ret
   exact ⟨rfl,HH.out,Turn.refl _ _⟩
  ·have z0:¬ ((s.size:Int)<16):=by omega
   have e1:s.extract 0 16≠⟨#[114,101,108,115,116,111,114,101,32,108,111,103,32,48,48,49]⟩:=fun e=>hm (by
    rw [extr_part] at e
    have e2:=congrArg (fun x:ByteArray=>x.data.toList) e
    simp only at e2
    rw [bsOf_list] at e2
    have e3:partL s.data.toList 0 16=markL:=e2
    rw [partL_zero] at e3;exact e3)
   have z16:16≤s.size:=by omega
   clear h hm hz
   go_enter Tryz.func112,Tryz.ntmps112
   generalize (⟨#[114,101,108,115,116,111,114,101,32,108,111,103,32,48,48,49]⟩:ByteArray)=MK at *
   have e2:((s.extract 0 16).toList == MK.toList)=false:=by
    rw [beq_eq_false_iff_ne]
    intro e
    rw [Lib.toList_data,Lib.toList_data] at e
    exact e1 (ByteArray.ext (Array.toList_inj.1 e))
   clear e1
   go_wp2_with fail
   go_ret
   exact ⟨rfl,HH.out,Turn.refl _ _⟩
end Go.Proofs.YtjihboddejaelaaGreat
namespace Go.Proofs.YtjihboddejaelaaGreat
open Go.RowKit
open Go.BigFrame
open Go.Maps
theorem make_none2 (w:World):(Instr.makeMap 104 none).run Tryz.prog w = .ok (.map (some w.heap.size)) (w.alloc (.map #[] 0)):=rfl
def halfCells (gd m2 kf kp sl nu:Nat):Array Value:=#[.pointer (some ⟨gd,0,none⟩),.int .i64 0,.int .i64 0,.map none,.int .i64 kf,.int .i64 kp,.map (some m2),.int .i64 sl,.int .i64 nu]
structure Half (w:World) (b:List (Option Nat)) (gd g m2:Nat) (D:Dk) (kf kp sl nu n:Nat) (f2:Int→Nat):Prop where
 disk:DP w b gd D
 has:Has w g 181 (halfCells gd m2 kf kp sl nu)
 map2:MP w m2 n f2
 offg:some g∉b
 offm:some m2∉b
section
variable {w w':World} {b b':List (Option Nat)} {gd g m2 kf kp sl nu n:Nat} {D D':Dk} {f2:Int→Nat}
theorem Half.below (h:Half w b gd g m2 D kf kp sl nu n f2) (hb:Below w.heap.size w w'):Half w' b gd g m2 D kf kp sl nu n f2 :=
 ⟨h.disk.below hb,h.has.belowS hb,h.map2.below hb,h.offg,h.offm⟩
theorem Half.ne (h:Half w b gd g m2 D kf kp sl nu n f2):g≠m2:=has_map h.has h.map2
theorem Half.put (h:Half w b gd g m2 D kf kp sl nu n f2) {n':Nat} {f':Int→Nat} (hm:MP w' m2 n' f') (hg:w.grownBy w' (some m2)):Half w' b gd g m2 D kf kp sl nu n' f':=by
 have ht:=Turn.grown hg
 refine ⟨h.disk.turn ht fun k hk h2=>?_,h.has.grown hg (fun e=>h.ne (Option.some.inj e)),hm,h.offg,h.offm⟩
 have:k=m2:=by simpa using hk
 subst this;exact h.offm h2
theorem Half.lt (h:Half w b gd g m2 D kf kp sl nu n f2) {k:Nat} (hk:some k∈b++[some g,some m2]):k<w.heap.size:=by
 rcases List.mem_append.1 hk with h2 | h2
 ·exact h.disk.lt h2
 ·simp at h2
  rcases h2 with rfl | rfl
  ·exact h.has.lt
  ·exact h.map2.lt
theorem Half.log {w0:World} {c:List (Option Nat)} {m:Nat} (h:Half w b gd g m2 D kf kp sl nu kf f2) (ht:Turn c (b++[some g,some m2]) w0 w) (hm:MP w m kf f2) (hoff:some m∉b++[some g,some m2]) (hlow:w0.heap.size≤m) :
 LR (((w.setCell ⟨g,1,none⟩ (.int .i64 kf)).setCell ⟨g,2,none⟩ (.int .i64 kp)).setCell ⟨g,3,none⟩ (.map (some m))) b gd g m m2 ⟨D,kf,kp,f2,kf,kp,f2,sl,nu⟩ ∧
 Turn c (b++lb g m m2) w0 (((w.setCell ⟨g,1,none⟩ (.int .i64 kf)).setCell ⟨g,2,none⟩ (.int .i64 kp)).setCell ⟨g,3,none⟩ (.map (some m))):=by
 have t1:Turn [some g] [some g] w (((w.setCell ⟨g,1,none⟩ (.int .i64 kf)).setCell ⟨g,2,none⟩ (.int .i64 kp)).setCell ⟨g,3,none⟩ (.map (some m))):=((Turn.cell g 1 _ w).trans (Turn.cell g 2 _ _)).trans (Turn.cell g 3 _ _)
 have hg:some g∈b++[some g,some m2]:=List.mem_append_right _ (by simp)
 have hmg:m≠g:=by rintro rfl;exact hoff hg
 have hm2:m≠m2:=by rintro rfl;exact hoff (List.mem_append_right _ (by simp))
 refine ⟨⟨h.disk.turn t1 fun k hk h2=>?_,((h.has.set 1 _).set 2 _).set 3 _,hm.turn t1 fun h3=>hmg (by simpa using h3),h.map2.turn t1 fun h3=>h.ne (by simpa using h3:m2=g).symm,hm2,fun k hk h2=>?_⟩, ?_⟩
 ·have:k=g:=by simpa using hk
  subst this;exact h.offg h2
 ·rcases mem_lb.1 h2 with rfl | rfl | rfl
  ·exact h.offg hk
  ·exact hoff (List.mem_append_left _ hk)
  ·exact h.offm hk
 ·refine ht.trans' t1 (fun k hk=>?_) (fun k hk=>?_)
  ·have:k=g:=by simpa using hk
   subst this;exact hg
  ·rcases List.mem_append.1 hk with h2 | h2
   ·exact .inl (List.mem_append_left _ h2)
   ·rcases mem_lb.1 h2 with rfl | rfl | rfl
    ·exact .inl hg
    ·exact .inr hlow
    ·exact .inl (List.mem_append_right _ (by simp))
end
def OpenPost (w:World) (b:List (Option Nat)) (gd:Nat) (R:Rw) (e:Ending) (w':World):Prop :=
 ∃ g b' m1 m2,e = .returned (.tuple #[.pointer (some ⟨g,0,none⟩),.int .i64 0])∧LR w' b' gd g m1 m2 R∧Turn b (b'++lb g m1 m2) w w'
theorem frameN_read {l:List UInt8} {s:ByteArray} (hs:bsOf l=s) (k:Nat):((frameAt l k).n:Nat)=unK ((s.extract (64+1028*k) s.size).data.toList.take 4):=by
 rw [← hs,extr_part,bsOf_list,bsOf_list,bsOf_size]
 show unK (partL l (64+1028*k) 4)=unK ((partL l (64+1028*k) (l.length-(64+1028*k))).take 4)
 congr 1
 unfold partL
 rw [List.take_take]
 by_cases h:4≤l.length-(64+1028*k)
 ·rw [Nat.min_eq_left h]
 ·rw [List.take_of_length_le (by rw [List.length_drop];omega),List.take_of_length_le (by rw [List.length_drop];omega)]
theorem open_start (b:List (Option Nat)) (gd p0:Nat) (D:Dk) (w:World) (h:DP w b gd D) :
 Half ((w.alloc (.map #[] 0)).alloc (.cells #[.pointer (some ⟨gd,0,none⟩),.int .i64 0,.int .i64 0,.map none,.int .i64 0,.int .i64 p0,.map (some w.heap.size),.int .i64 0,.int .i64 0] 181)) b gd (w.heap.size+1) w.heap.size D 0 p0 0 0 0 (fun _=>0) ∧
 Below w.heap.size w ((w.alloc (.map #[] 0)).alloc (.cells #[.pointer (some ⟨gd,0,none⟩),.int .i64 0,.int .i64 0,.map none,.int .i64 0,.int .i64 p0,.map (some w.heap.size),.int .i64 0,.int .i64 0] 181)):=by
 have b1:Below w.heap.size w (w.alloc (.map #[] 0)):=(Below.refl _ _).alloc (Nat.le_refl _) _
 have b2:Below w.heap.size w ((w.alloc (.map #[] 0)).alloc (.cells #[.pointer (some ⟨gd,0,none⟩),.int .i64 0,.int .i64 0,.map none,.int .i64 0,.int .i64 p0,.map (some w.heap.size),.int .i64 0,.int .i64 0] 181)):=b1.alloc (by simp) _
 have hn:=Has.new (w.alloc (.map #[] 0)) 181 #[.pointer (some ⟨gd,0,none⟩),.int .i64 0,.int .i64 0,.map none,.int .i64 0,.int .i64 p0,.map (some w.heap.size),.int .i64 0,.int .i64 0]
 rw [World.size_alloc] at hn
 exact ⟨⟨h.below b2,hn,(MP.made w).below ((Below.refl _ _).alloc (Nat.le_refl _) _),fun h3=>by have:=h.lt h3;omega,fun h3=>by have:=h.lt h3;omega⟩,b2⟩
theorem open_turn {B:Nat} {w W w2:World} {b b2:List (Option Nat)} {g m2:Nat} (hB:w.heap.size=B) (hb:Below B w W) (ht:Turn (b++[some g]) (b2++[some g]) W w2) (hg:w.heap.size≤g) (hm:w.heap.size≤m2):Turn b (b2++[some g,some m2]) w w2:=by
 subst hB
 refine ⟨ht.os.trans hb.os,ht.tape.trans hb.tape,ht.output.trans hb.output,Nat.le_trans hb.size ht.size,fun k hk hn=>(ht.block k (Nat.lt_of_lt_of_le hk hb.size) (fun h=>?_)).trans (hb.block k hk),fun k hk=>?_⟩
 ·rcases List.mem_append.1 h with h2 | h2
  ·exact hn h2
  ·have:k=g:=by simpa using h2
   omega
 ·rcases List.mem_append.1 hk with h2 | h2
  ·rcases ht.new k (List.mem_append_left _ h2) with h3 | h3
   ·rcases List.mem_append.1 h3 with h4 | h4
    ·exact .inl h4
    ·have:k=g:=by simpa using h4
     exact .inr (by omega)
   ·exact .inr (Nat.le_trans hb.size h3)
  ·have:k=g∨k=m2:=by simpa using h2
   exact .inr (by omega)
theorem lastAt_take {fs:List Fr} {k:Nat} (hk:k<fs.length) {f:Fr} (hf:fs[k]? = some f) (x:Int) (hx:(f.n:Int)=x):(fun y=>if y=x then k+1 else lastAt (fs.take k) y)=fun y=>lastAt (fs.take (k+1)) y:=by
 funext y
 obtain ⟨h1,h2⟩:=List.getElem?_eq_some_iff.1 hf
 rw [List.take_succ_eq_append_getElem h1,h2,lastAt_snoc,hx,List.length_take,Nat.min_eq_left (by omega)]
 by_cases h:y=x
 ·rw [if_pos h,if_pos h.symm]
 ·rw [if_neg h,if_neg (fun e=>h e.symm)]
theorem readS_all2 {D:Dk} (hok:D.ok) {f:Nat} (hf:f<2) (hd:D.down=false):D.readS f 0 (D.seen f).length=bsOf (D.seen f)∧D.readE f 0 (D.seen f).length=0:=by
 have hl:=hok.seen f
 have hF:fitsF f 0 (D.seen f).length:=by unfold fitsF;omega
 refine ⟨(if_pos ⟨hF,hd,by simp⟩).trans (by simp), ?_⟩
 unfold Dk.readE
 rw [if_pos hF,if_neg (by rw [hd];decide),if_pos (by simp)]
set_option maxRecDepth 100000 in
set_option maxHeartbeats 6400000 in
theorem wal_Open2 (b:List (Option Nat)) (gd:Nat) (D:Dk) (w:World) (h:DP w b gd D) (hfit:Fit D 4) (hd:D.down=false) (hc:slotIx (D.seen 1)=2→D.calm) :
 Calls Tryz.prog 38 #[.pointer (some ⟨gd,0,none⟩)] w (OpenPost w b gd (Lg.opened D).rw):=by
 have s0:D.sizeN 0=((D.seen 0).length:Int)∧D.sizeE 0=0:=⟨if_pos ⟨by omega,by omega,hd⟩,(if_pos (by omega)).trans (if_neg (by rw [hd];decide))⟩
 have s1:D.sizeN 1=((D.seen 1).length:Int)∧D.sizeE 1=0:=⟨if_pos ⟨by omega,by omega,hd⟩,(if_pos (by omega)).trans (if_neg (by rw [hd];decide))⟩
 have s2:=readS_all2 hfit.ok (f:=1) (by omega) hd
 have T0:=Lib.hid (disk_Size gd D b 0 w h hfit.ok)
 have T1:=Lib.hid (disk_Size gd D b 1 w h hfit.ok)
 have T2:=Lib.hid (disk_Read gd D b 1 0 (D.seen 1).length w h hfit.ok)
 rw [s0.1,s0.2] at T0
 rw [s1.1,s1.2] at T1
 rw [show ((1:Nat):Int)=1 from rfl] at s2
 rw [s2.1,s2.2] at T2
 have l0:=hfit.ok.seen 0
 have l1:=hfit.ok.seen 1
 have OP:=Lib.hid (open_start b gd ((D.seen 0).length / 1024) D w h)
 have LO:=Lib.hid (opened_ok hfit.ok)
 obtain ⟨n0,hn0⟩:∃ n,(D.seen 0).length=n:=⟨_,rfl⟩
 obtain ⟨l,hl⟩:∃ l,D.seen 1=l:=⟨_,rfl⟩
 obtain ⟨s,hs⟩:∃ s,bsOf l=s:=⟨_,rfl⟩
 have hz:s.size=l.length:=by rw [← hs,bsOf_size]
 have ht:s.data.toList=l:=by rw [← hs,bsOf_list]
 rw [hl] at T1 T2 l1
 rw [hs] at T2
 rw [hn0] at T0 l0 OP
 rw [← hz] at T1 T2 l1
 have LA:=Lib.hid (fun (p0:Nat) w1 (h1:Has w1 (w.heap.size+1) 181 (lastCells gd (.int .i64 0) (.int .i64 0) (.map none) (.map (some w.heap.size)) ⟨0,0,0,p0⟩))=>wal_last (w.heap.size+1) gd p0 _ _ _ _ s w1 h1 l1)
 rw [ht] at LA
 have HS:=Lib.hid hs
 have HL:=Lib.hid hl
 have N0:=Lib.hid hn0
 have L0:=Lib.hid l0
 have L1:=Lib.hid l1
 have HZ:=Lib.hid hz
 have HF:=Lib.hid hfit
 have HC:=Lib.hid hc
 have wr0:wrap64 ((n0:Int) / 1024)=((n0 / 1024:Nat):Int):=(IntWalk.wrap64_in _ (by omega)).trans (by omega)
 have hmm:=make_none2
 obtain ⟨p0,hp0⟩:∃ p,n0 / 1024=p:=⟨_,rfl⟩
 have hp1:p0≤65536:=by omega
 rw [hp0] at OP wr0
 have P0:=Lib.hid hp0
 have P1:=Lib.hid hp1
 clear s0 s1 s2 h hfit hd hc hn0 hl hs hz ht l0 l1 hp0 hp1
 go_enter Tryz.func38,Tryz.ntmps38
 go_upto_region 11 with (first | (go_at_call 94;(with_reducible refine T0.out.mono ?_);rintro e w1 ⟨rfl,rfl⟩) | (go_at_call 94;(with_reducible refine T1.out.mono ?_);rintro e w1 ⟨rfl,rfl⟩) | (go_at_call 95;(with_reducible refine T2.out.mono ?_);rintro e w1 ⟨rfl,rfl⟩))
 obtain ⟨g,hg⟩:∃ g,w.heap.size+1=g:=⟨_,rfl⟩
 obtain ⟨m2,hm2⟩:∃ g,w.heap.size=g:=⟨_,rfl⟩
 obtain ⟨W,hW⟩:∃ W,((w.alloc (.map #[] 0)).alloc (.cells #[.pointer (some ⟨gd,0,none⟩),.int .i64 0,.int .i64 0,.map none,.int .i64 0,.int .i64 p0,.map (some w.heap.size),.int .i64 0,.int .i64 0] 181))=W:=⟨_,rfl⟩
 have OQ:=Lib.hid OP.out
 clear OP
 rw [hW,hg] at OQ
 rw [hg] at LA
 rw [hW,hg]
 have HWS:=Lib.hid hm2
 have HGS:=Lib.hid hg
 clear hW hg
 rw [hm2] at OQ LA ⊢
 clear hm2
 have LW:=Lib.hid (LA.out p0 W OQ.out.1.has)
 clear LA hmm wr0
 by_cases hx:slotIx l=2
 ·have E0:=lastOf_none (p0:=p0) hx
  have HX0:=Lib.hid hx
  rw [E0] at LW
  obtain ⟨D',hD'⟩:∃ D',beginD D p0 4=D':=⟨_,rfl⟩
  obtain ⟨kf,hkf⟩:∃ k:Nat,k=0:=⟨_,rfl⟩
  obtain ⟨kp,hkp⟩:∃ k:Nat,k=p0:=⟨_,rfl⟩
  obtain ⟨sl,hsl⟩:∃ k:Nat,k=0:=⟨_,rfl⟩
  obtain ⟨nu,hnu⟩:∃ k:Nat,k=1:=⟨_,rfl⟩
  obtain ⟨fs,hfs⟩:∃ f:List Fr,f=[]:=⟨_,rfl⟩
  have ER:=Lib.hid (show (Lg.opened D).rw=⟨D',kf,kp,fun x=>lastAt (fs.take kf) x,kf,kp,fun x=>lastAt (fs.take kf) x,sl,nu⟩ by
   have e1:Lg.opened D=⟨anewD D,[],0,(D.seen 0).length / 1024,0,1⟩:=if_pos (by rw [HL.out];exact hx)
   have e2:anewD D=D':=by rw [← hD',← P0.out,← N0.out];rfl
   rw [e1,e2,N0.out,P0.out,hkf,hkp,hsl,hnu,hfs];rfl)
  have HKF:=Lib.hid (show kf≤100000 by omega)
  have BG:=Lib.hid (fun w1 (h1:DP w1 b gd D) (h2:Has w1 g 181 (lastCells gd (.int .i64 0) (.int .i64 0) (.map none) (.map (some m2)) ⟨0,0,0,p0⟩))=>wal_begin b gd g p0 D _ _ _ _ _ _ _ w1 h1 h2 OQ.out.1.offg HF.out (HC.out (by rw [HL.out];exact HX0.out)) (by have:=P1.out;omega))
  rw [hD'] at BG
  have K0:=Lib.hid hkf;have K1:=Lib.hid hkp;have K2:=Lib.hid hsl;have K3:=Lib.hid hnu
  clear E0 hx hD' hkf hkp hsl hnu hfs
  go_wp2_with (first | (go_at_call 112;(with_reducible refine LW.out.mono ?_);rintro e w1 ⟨rfl,hh,ht⟩;have HH1:=Lib.hid hh;have HT1:=Lib.hid ht;clear hh ht) | (go_at_call 113;(refine (BG.out _ (OQ.out.1.disk.turn HT1.out (fun k hk h3=>OQ.out.1.offg ((show k=g by simpa using hk) ▸ h3))) HH1.out).mono ?_);rintro e w2 ⟨rfl,b2,hd2,hh2,ht2,ho2⟩;have TT:=Lib.hid ((HT1.out.right b).trans ht2);have HALF:=Lib.hid (show Half w2 b2 gd g m2 D' kf kp sl nu 0 (fun x=>lastAt (fs.take 0) x) from by rw [K0.out,K1.out,K2.out,K3.out];exact ⟨hd2,hh2,OQ.out.1.map2.turn TT.out (fun h3=>(List.mem_append.1 h3).elim OQ.out.1.offm (fun h4=>OQ.out.1.ne (show m2=g by simpa using h4).symm)),ho2,fun h3=>(TT.out.new m2 (List.mem_append_left _ h3)).elim (fun h5=>(List.mem_append.1 h5).elim OQ.out.1.offm (fun h4=>OQ.out.1.ne (show m2=g by simpa using h4).symm)) (fun h5=>by have:=OQ.out.1.map2.lt;omega)⟩);have y4:w2.cell? ⟨g,4,none⟩=some (.int .i64 0):=hh2.cell 4;have gz:=hh2.lt;clear hd2 hh2 ht2 ho2))
  have HT:=Lib.hid (open_turn (m2:=m2) HWS.out OQ.out.2 TT.out (by have:=HGS.out;omega) (by have:=HWS.out;omega))
  go_loopw [56] (fun v56 wr=>∃ k:Nat,k≤kf∧v56 = .int .i64 k∧Half wr b2 gd g m2 D' kf kp sl nu k (fun x=>lastAt (fs.take k) x)∧Turn b (b2++[some g,some m2]) w wr) (fun v56 _=>kf-(intOf v56).toNat)
  case atStart=>exact ⟨0,Nat.zero_le _,rfl,HALF.out,HT.out⟩
  case round =>
   obtain ⟨k,hk,rfl,hh,ht⟩:=hrel
   have HH:=Lib.hid hh
   have HTT:=Lib.hid ht
   clear hh ht HALF HT
   by_cases hk2:k<kf
   ·exact absurd hk2 (by have:=K0.out;omega)
   ·have hk3:k=kf:=by omega
    subst hk3
    have HD:=Lib.hid HH.out
    have y6:wr.cell? ⟨g,6,none⟩=some (.map (some m2)):=HH.out.has.cell 6
    have y5:wr.cell? ⟨g,5,none⟩=some (.int .i64 kp):=HH.out.has.cell 5
    have y4:wr.cell? ⟨g,4,none⟩=some (.int .i64 k):=HH.out.has.cell 4
    have gz:=HH.out.has.lt
    have CP:=Lib.hid (fun w1 (h1:MP w1 m2 k (fun x=>lastAt (fs.take k) x))=>wal_copied m2 k kp k _ w1 (by have:=HKF.out;omega) h1)
    go_wp2_with ((go_at_call 115;refine (CP.out _ HD.out.map2).mono ?_);rintro e w3 ⟨m,rfl,hm,hlow,hb⟩;have HM:=Lib.hid hm;have HW:=Lib.hid hlow;have HB:=Lib.hid hb;have hh3:=(HD.out.below hb).has;have c1:w3.cell? ⟨g,1,none⟩=some (.int .i64 0):=hh3.cell 1;have c2:w3.cell? ⟨g,2,none⟩=some (.int .i64 0):=hh3.cell 2;have c3:w3.cell? ⟨g,3,none⟩=some (.map none):=hh3.cell 3;have y1:=hh3.lt;have yf:=hh3.frozen;clear hm hlow hb hh3)
    go_ret2
    obtain ⟨h4,t4⟩:=(HD.out.below HB.out).log (Turn.below _ HB.out) HM.out (fun h3=>by have:=HD.out.lt h3;have:=HW.out;omega) HW.out
    refine ⟨g,b2,m,m2,rfl, ?_,HTT.out.trans t4⟩
    rw [ER.out]
    exact h4
 ·have E0:=lastOf_some (p0:=p0) hx
  rw [E0] at LW
  obtain ⟨G1,G2,_⟩:=slotIx_good hx
  obtain ⟨G3,G4,G5⟩:=slotOf_good G2
  obtain ⟨D',hD'⟩:∃ D',D=D':=⟨_,rfl⟩
  have e1:Lg.opened D=⟨D,framesOf l (slotOf l (slotIx l)).2.1,(slotOf l (slotIx l)).2.1,(slotOf l (slotIx l)).2.2,slotIx l,(slotOf l (slotIx l)).1⟩:=by
   rw [← HL.out];exact if_neg (by rw [HL.out];exact hx)
  obtain ⟨kf,hkf⟩:∃ k:Nat,(slotOf l (slotIx l)).2.1=k:=⟨_,rfl⟩
  obtain ⟨kp,hkp⟩:∃ k:Nat,(slotOf l (slotIx l)).2.2=k:=⟨_,rfl⟩
  obtain ⟨nu,hnu⟩:∃ k:Nat,(slotOf l (slotIx l)).1=k:=⟨_,rfl⟩
  rw [hkf,hkp,hnu] at LW e1
  rw [hnu] at G2 G3
  rw [hkf] at G4
  obtain ⟨sl,hsl⟩:∃ k:Nat,slotIx l=k:=⟨_,rfl⟩
  rw [hsl] at LW e1
  obtain ⟨fs,hfs⟩:∃ f:List Fr,framesOf l kf=f:=⟨_,rfl⟩
  have LFS:=Lib.hid (show fs.length=kf by rw [← hfs];exact framesOf_len l kf)
  have HKL:=Lib.hid (show ∀ k<kf,64+1028*k+1028≤s.size from fun k hk=>by have:=HZ.out;omega)
  have HFS:=Lib.hid (show ∀ k<kf,fs[k]? = some (frameAt l k) from fun k hk=>by
   have h1:k<fs.length:=by have:=LFS.out;omega
   have h2:=List.getElem?_eq_getElem h1
   rw [h2]
   have h3:=framesOf_get l kf k fs[k] (by rw [hfs];exact h2)
   rw [h3.2])
  have ER:=Lib.hid (show (Lg.opened D).rw=⟨D',kf,kp,fun x=>lastAt (fs.take kf) x,kf,kp,fun x=>lastAt (fs.take kf) x,sl,nu⟩ by
   rw [e1,hD',hfs]
   have h1:fs.take kf=fs:=List.take_of_length_le (by have:=LFS.out;omega)
   exact rw_eq rfl LFS.out rfl (fun x=>by show lastAt fs x=lastAt (fs.take kf) x;rw [h1]) rfl rfl (fun x=>rfl) rfl rfl)
  have HKF:=Lib.hid (show kf≤100000 by have:=HZ.out;have:=L1.out;omega)
  have LW2:Calls Tryz.prog 112 #[.pointer (some ⟨g,0,none⟩),.string s] W (fun e w'=>e = .returned (.bool true)∧Has w' g 181 (lastCells gd (.int .i64 0) (.int .i64 0) (.map none) (.map (some m2)) ⟨sl,nu,kf,kp⟩)∧Turn [some g] [some g] W w'):=LW.out.mono fun e w' h=>⟨by rw [h.1];show _=Ending.returned (.bool true);rw [decide_eq_true (show 0<nu by omega)],h.2⟩
  have HLW:=Lib.hid LW2
  have OD:=Lib.hid (show DP W b gd D' from hD' ▸ OQ.out.1.disk)
  clear LW LW2 E0 hx G1 G2 G3 G4 G5 hD' e1 hkf hkp hnu hsl hfs
  obtain ⟨b2,hb2⟩:∃ b2,b=b2:=⟨_,rfl⟩
  have OF:=Lib.hid (show some g∉b2∧some m2∉b2 from hb2 ▸ ⟨OQ.out.1.offg,OQ.out.1.offm⟩)
  rw [hb2] at OD
  have BB:=Lib.hid hb2
  go_wp2_with (go_at_call 112;(with_reducible refine HLW.out.mono ?_);rintro e w1 ⟨rfl,hh,ht⟩;have TT:=Lib.hid (ht.right b);have HALF:=Lib.hid (show Half w1 b2 gd g m2 D' kf kp sl nu 0 (fun x=>lastAt (fs.take 0) x) from ⟨OD.out.turn ht (fun k hk h3=>OF.out.1 ((show k=g by simpa using hk) ▸ h3)),hh,OQ.out.1.map2.turn ht (fun h4=>OQ.out.1.ne (show m2=g by simpa using h4).symm),OF.out.1,OF.out.2⟩);have y4:w1.cell? ⟨g,4,none⟩=some (.int .i64 kf):=hh.cell 4;have gz:=hh.lt;clear hh ht)
  have HT:=Lib.hid (show Turn b (b2++[some g,some m2]) w w1 from hb2 ▸ open_turn (m2:=m2) HWS.out OQ.out.2 TT.out (by have:=HGS.out;omega) (by have:=HWS.out;omega))
  clear hb2
  go_loopw [56] (fun v56 wr=>∃ k:Nat,k≤kf∧v56 = .int .i64 k∧Half wr b2 gd g m2 D' kf kp sl nu k (fun x=>lastAt (fs.take k) x)∧Turn b (b2++[some g,some m2]) w wr) (fun v56 _=>kf-(intOf v56).toNat)
  case atStart=>exact ⟨0,Nat.zero_le _,rfl,HALF.out,HT.out⟩
  case round =>
   obtain ⟨k,hk,rfl,hh,ht⟩:=hrel
   have HH:=Lib.hid hh
   have HTT:=Lib.hid ht
   clear hh ht HALF HT
   by_cases hk2:k<kf
   ·have w_k:(k:Int)<(kf:Int):=by omega
    have hkl:=HKL.out k hk2
    have hf:=HFS.out k hk2
    have NU:=Lib.hid (wal_number (s.extract (64+1028*k) s.size) (by rw [ByteArray.size_extract];omega))
    rw [← frameN_read HS.out k] at NU
    obtain ⟨x,hx⟩:∃ x,(frameAt l k).n=x:=⟨_,rfl⟩
    have hxb:x<4294967296:=by rw [← hx];exact unK_lt 4 _ (by rw [partL_len];have:=HZ.out;omega)
    rw [hx] at NU
    have HX:=Lib.hid hx
    have WX:=Lib.hid (wfI (x:=(x:Int)) (by omega) (by omega))
    have HD:=Lib.hid (HH.out.below (Below.refl _ _).drew)
    have y6:wr.cell? ⟨g,6,none⟩=some (.map (some m2)):=HH.out.has.cell 6
    have gz:=HH.out.has.lt
    have kb:k≤100000:=by have:=HKF.out;omega
    have q1:(64:Int)+(k:Int)*1028≤(s.size:Int):=by omega
    have q2:IntKind.i64.wrap (64+IntKind.i64.wrap ((k:Int)*1028))=((64+1028*k:Nat):Int):=by
     rw [IntWalk.i64_in ((k:Int)*1028) (by omega),IntWalk.i64_in (64+(k:Int)*1028) (by omega)];omega
    have TD:=Lib.hid (HTT.out.trans (Turn.below _ (Below.refl wr.heap.size wr).drew))
    have LT:=Lib.hid (lastAt_take (fs:=fs) (k:=k) (by have:=LFS.out;omega) hf (x:Int) (by rw [← hx]))
    clear hx hf hkl
    go_upto_region 18 with fail
    go_region_with ((go_at_call 114;(refine (NU.out _).mono ?_);rintro e w1 ⟨rfl,hb1⟩;have HH1:=Lib.hid (HD.out.below hb1);have yy6:w1.cell? ⟨g,6,none⟩=some (.map (some m2)):=HH1.out.has.cell 6;have yyz:=HH1.out.has.lt;obtain ⟨w3,hrun,hm3,hg3⟩:=HH1.out.map2.put (by omega) (x:Int) (k+1) WX.out (by omega);rw [show ((k+1:Nat):Int)=(k:Int)+1 from rfl] at hrun;have HH3:=Lib.hid (HH1.out.put hm3 hg3);have HT3:=Lib.hid ((TD.out.trans (Turn.below _ hb1)).trans ((Turn.grown hg3).wide (c:=b2++[some g,some m2]) (c':=b2++[some g,some m2]) (fun j hj=>List.mem_append_right _ (by rw [show j=m2 by simpa using hj];simp)) (fun j hj=>.inr hj)));clear hm3 hg3 hb1))
    all_goals
     go_wp2_with fail
     go_roundw
     case rel=>exact ⟨k+1,by omega,by simp,by have q:=HH3.out;rw [LT.out] at q;exact q,HT3.out⟩
     case measure=>simp [intOf];omega
   ·have hk3:k=kf:=by omega
    subst hk3
    have HD:=Lib.hid HH.out
    have y6:wr.cell? ⟨g,6,none⟩=some (.map (some m2)):=HH.out.has.cell 6
    have y5:wr.cell? ⟨g,5,none⟩=some (.int .i64 kp):=HH.out.has.cell 5
    have y4:wr.cell? ⟨g,4,none⟩=some (.int .i64 k):=HH.out.has.cell 4
    have gz:=HH.out.has.lt
    have CP:=Lib.hid (fun w1 (h1:MP w1 m2 k (fun x=>lastAt (fs.take k) x))=>wal_copied m2 k kp k _ w1 (by have:=HKF.out;omega) h1)
    go_wp2_with ((go_at_call 115;refine (CP.out _ HD.out.map2).mono ?_);rintro e w3 ⟨m,rfl,hm,hlow,hb⟩;have HM:=Lib.hid hm;have HW:=Lib.hid hlow;have HB:=Lib.hid hb;have hh3:=(HD.out.below hb).has;have c1:w3.cell? ⟨g,1,none⟩=some (.int .i64 0):=hh3.cell 1;have c2:w3.cell? ⟨g,2,none⟩=some (.int .i64 0):=hh3.cell 2;have c3:w3.cell? ⟨g,3,none⟩=some (.map none):=hh3.cell 3;have y1:=hh3.lt;have yf:=hh3.frozen;clear hm hlow hb hh3)
    go_ret2
    obtain ⟨h4,t4⟩:=(HD.out.below HB.out).log (Turn.below _ HB.out) HM.out (fun h3=>by have:=HD.out.lt h3;have:=HW.out;omega) HW.out
    refine ⟨g,b2,m,m2,rfl, ?_,HTT.out.trans t4⟩
    rw [ER.out]
    exact h4
end Go.Proofs.YtjihboddejaelaaGreat
namespace Go.Proofs.YtjihboddejaelaaGreat
open Go.RowKit
open Go.BigFrame
def metaS:ByteArray:=sealS 4 0 []
def Pl.begun (D:Dk):Lg:=if (Lg.opened D).pages=0 then (Lg.opened D).commit 0 metaS 1 else Lg.opened D
def Pl.opened (D:Dk) (most:Nat):Pl×Int:=Pl.forgot (Pl.begun D) most
def OpenedPost (w:World) (b:List (Option Nat)) (gd:Nat) (P:Pl) (E:Int) (en:Ending) (w':World):Prop :=
 ∃ b' g m1 m2 p e h t,en = .returned (.tuple #[ptrB p,.int .i64 E])∧PM w' b' gd g m1 m2 p e h t [] P∧Turn b (allB b' g m1 m2 p e h t []) w w'
theorem lr_Commit {b:List (Option Nat)} {gd g m1 m2:Nat} {L:Lg} {w:World} (h:LR w b gd g m1 m2 L.rw) (ok:L.ok) (fit:Fit L.D 4) (n:Int) (s:ByteArray) (p:Int) :
 Calls Tryz.prog 40 #[ptrB g,.int .i64 n,.string s,.int .i64 p] w (MapsPost w b gd g m1 m2 (L.commit n s p).rw (.int .i64 (L.commitE n s p))):=by
 obtain ⟨e1,e2⟩:=rw_commit ok n s p
 rw [e1,e2]
 exact wal_Commit b gd g m1 m2 L.rw n s p w h fit ok.slot ok.number (show L.fs.length≤_ by have:=ok.len;omega)
set_option maxRecDepth 100000 in
set_option maxHeartbeats 6400000 in
theorem pool_Open (b:List (Option Nat)) (gd:Nat) (D:Dk) (most:Nat) (h8:8≤most) (h64:most≤64) (w:World) (H:DP w b gd D) (fit:Fit D 8) (hd:D.down=false) (hc:slotIx (D.seen 1)=2→D.calm) (ok:(Lg.opened D).ok) (fit2:Fit (Lg.opened D).D 4)
 (hC:(Lg.opened D).pages=0→(Lg.opened D).commitE 0 metaS 1=0) :
 Calls Tryz.prog 7 #[.pointer (some ⟨gd,0,none⟩),.int .i64 most] w (OpenedPost w b gd (Pl.opened D most).1 (Pl.opened D most).2):=by
 have WO:=Lib.hid (wal_Open2 b gd D w H (fit.less (by omega)) hd hc)
 have BG:Hid (Pl.begun D=if (Lg.opened D).pages=0 then (Lg.opened D).commit 0 metaS 1 else Lg.opened D):=rfl
 have PO:Hid (Pl.opened D most=Pl.forgot (Pl.begun D) most):=rfl
 have OK:=Lib.hid ok
 have FIT:=Lib.hid fit2
 have HC:=Lib.hid hC
 obtain ⟨L,hL⟩:∃ L,Lg.opened D=L:=⟨_,rfl⟩
 rw [hL] at WO BG OK FIT HC
 clear H fit hd hc ok fit2 hC hL
 have i8:¬ (most:Int)<8:=by omega
 have i64:¬ (64:Int)<most:=by omega
 by_cases hp0:L.pages=0
 ·have BG2:=Lib.hid (BG.out.trans (if_pos hp0))
  have CE:=HC.out hp0
  have CM:=Lib.hid (fun b1 g n1 n2 w1 (hq:LR w1 b1 gd g n1 n2 L.rw)=>lr_Commit hq OK.out FIT.out 0 metaS 1)
  rw [CE] at CM
  have COK:=Lib.hid (commit_ok OK.out 0 metaS 1)
  have MT:Hid (∀ w,Calls Tryz.prog 41 #[.int .i64 0,.slice none 0 0] w fun e w'=>e = .returned (.string metaS)∧Below w.heap.size w w'):=fun w=>pool_meta 0 none 0 0 [] w (SS.nil w) (by decide)
  have PG:Hid (∀ b1 g n1 n2 w1,LR w1 b1 gd g n1 n2 L.rw→Calls Tryz.prog 39 #[ptrB g] w1 fun e w'=>e = .returned (.int .i64 0)∧w1=w'):=fun b1 g n1 n2 w1 hq=>by
   have:=wal_Pages b1 gd g n1 n2 L.rw w1 hq
   rw [show (L.rw.kp:Nat)=0 from hp0] at this
   exact this
  obtain ⟨M,hM⟩:∃ M,L.commit 0 metaS 1=M:=⟨_,rfl⟩
  obtain ⟨S,hS⟩:∃ S,metaS=S:=⟨_,rfl⟩
  rw [hM] at BG2 CM COK
  rw [hS] at CM MT
  have FG:Hid (∀ b1 g n1 n2 w1,LR w1 b1 gd g n1 n2 M.rw→Calls Tryz.prog 42 #[ptrB w1.heap.size] (w1.alloc (.cells #[ptrB g,.int .i64 most,.pointer none,.map none,.int .i64 0,.int .i64 0,.map none,.int .i64 0,.int .i64 0,.int .i64 0] 106))
   (fun en w'=>en = .returned (.int .i64 (Pl.forgot M most).2)∧∃ e h t,PM w' b1 gd g n1 n2 w1.heap.size e h t [] (Pl.forgot M most).1∧Turn (b1++lb g n1 n2) (allB b1 g n1 n2 w1.heap.size e h t []) w1 w')):=fun b1 g n1 n2 w1 hq=>by
   have hb:Below w1.heap.size w1 (w1.alloc (.cells #[ptrB g,.int .i64 most,.pointer none,.map none,.int .i64 0,.int .i64 0,.map none,.int .i64 0,.int .i64 0,.int .i64 0] 106)):=(Below.refl _ _).alloc (Nat.le_refl _) _
   refine (pool_forget b1 gd g n1 n2 w1.heap.size M most _ (hq.below hb) COK.out (Has.new w1 106 #[ptrB g,.int .i64 most,.pointer none,.map none,.int .i64 0,.int .i64 0,.map none,.int .i64 0,.int .i64 0,.int .i64 0]) (fun hk=>by have:=hq.lt hk;omega)).mono ?_
   rintro en w' ⟨he,e,h,t,h1,h2⟩
   exact ⟨he,e,h,t,h1,(turn_new hb (a:=w1.heap.size) (Nat.le_refl _)).trans h2⟩
  rw [PO.out,BG2.out]
  obtain ⟨Q,hQ⟩:∃ Q,Pl.forgot M most=Q:=⟨_,rfl⟩
  rw [hQ] at FG ⊢
  clear CE hM hS hQ BG PO hp0 HC BG2 FIT OK
  go_enter Tryz.func7,Tryz.ntmps7
  go_wp2_with (first
   | (go_at_call 38;refine WO.out.mono ?_;rintro en w1 ⟨g,b1,n1,n2,rfl,hlr,ht⟩;have HL:=Lib.hid hlr;have HT:=Lib.hid ht;clear hlr ht)
   | (go_at_call 39;refine (PG.out _ _ _ _ _ HL.out).mono ?_;rintro en w2 ⟨rfl,rfl⟩)
   | (go_at_call 41;refine (MT.out _).mono ?_;rintro en w3 ⟨rfl,hb3⟩;have HL3:=Lib.hid (HL.out.below hb3);have HT3:=Lib.hid (HT.out.trans (Turn.below _ hb3));clear hb3)
   | (go_at_call 40;refine (CM.out _ _ _ _ _ HL3.out).mono ?_;rintro en w4 ⟨rfl,b4,n3,n4,hl4,ht4⟩;have HL4:=Lib.hid hl4;have HT4:=Lib.hid (HT3.out.trans ht4);clear hl4 ht4)
   | (go_at_call 42;refine (FG.out _ _ _ _ _ HL4.out).mono ?_;rintro en w5 ⟨rfl,e,h,t,hpm,ht5⟩))
  go_ret2
  exact ⟨b4,g,n3,n4,_,e,h,t,rfl,hpm,HT4.out.trans ht5⟩
 ·have BG2:=Lib.hid (BG.out.trans (if_neg hp0))
  have e0:((L.pages:Int) == 0)=false:=by rw [beq_eq_false_iff_ne];omega
  have PG:Hid (∀ b1 g n1 n2 w1,LR w1 b1 gd g n1 n2 L.rw→Calls Tryz.prog 39 #[ptrB g] w1 fun e w'=>e = .returned (.int .i64 L.pages)∧w1=w'):=fun b1 g n1 n2 w1 hq=>wal_Pages b1 gd g n1 n2 L.rw w1 hq
  have FG:Hid (∀ b1 g n1 n2 w1,LR w1 b1 gd g n1 n2 L.rw→Calls Tryz.prog 42 #[ptrB w1.heap.size] (w1.alloc (.cells #[ptrB g,.int .i64 most,.pointer none,.map none,.int .i64 0,.int .i64 0,.map none,.int .i64 0,.int .i64 0,.int .i64 0] 106))
   (fun en w'=>en = .returned (.int .i64 (Pl.forgot L most).2)∧∃ e h t,PM w' b1 gd g n1 n2 w1.heap.size e h t [] (Pl.forgot L most).1∧Turn (b1++lb g n1 n2) (allB b1 g n1 n2 w1.heap.size e h t []) w1 w')):=fun b1 g n1 n2 w1 hq=>by
   have hb:Below w1.heap.size w1 (w1.alloc (.cells #[ptrB g,.int .i64 most,.pointer none,.map none,.int .i64 0,.int .i64 0,.map none,.int .i64 0,.int .i64 0,.int .i64 0] 106)):=(Below.refl _ _).alloc (Nat.le_refl _) _
   refine (pool_forget b1 gd g n1 n2 w1.heap.size L most _ (hq.below hb) OK.out (Has.new w1 106 #[ptrB g,.int .i64 most,.pointer none,.map none,.int .i64 0,.int .i64 0,.map none,.int .i64 0,.int .i64 0,.int .i64 0]) (fun hk=>by have:=hq.lt hk;omega)).mono ?_
   rintro en w' ⟨he,e,h,t,h1,h2⟩
   exact ⟨he,e,h,t,h1,(turn_new hb (a:=w1.heap.size) (Nat.le_refl _)).trans h2⟩
  rw [PO.out,BG2.out]
  obtain ⟨Q,hQ⟩:∃ Q,Pl.forgot L most=Q:=⟨_,rfl⟩
  rw [hQ] at FG ⊢
  clear hQ BG PO hp0 HC BG2 FIT
  go_enter Tryz.func7,Tryz.ntmps7
  go_wp2_with (first
   | (go_at_call 38;refine WO.out.mono ?_;rintro en w1 ⟨g,b1,n1,n2,rfl,hlr,ht⟩;have HL:=Lib.hid hlr;have HT:=Lib.hid ht;clear hlr ht)
   | (go_at_call 39;refine (PG.out _ _ _ _ _ HL.out).mono ?_;rintro en w2 ⟨rfl,rfl⟩)
   | (go_at_call 42;refine (FG.out _ _ _ _ _ HL.out).mono ?_;rintro en w5 ⟨rfl,e,h,t,hpm,ht5⟩))
  go_ret2
  exact ⟨b1,g,n1,n2,_,e,h,t,rfl,hpm,HT.out.trans ht5⟩
end Go.Proofs.YtjihboddejaelaaGreat
namespace Go.Proofs.YtjihboddejaelaaGreat
open Go.RowKit
open Go.BigFrame
open Go.Maps
def stays (T:List Nat) (left:Lit→Bool) (f:Pf):Bool:=!(decide (f.n∈T)) || left (.int .i64 f.n)
theorem stays_start {T:List Nat} {left:Lit→Bool} {F:List Pf} (h:∀ x∈T,left (.int .i64 x)=true):F.filter (stays T left)=F:=List.filter_eq_self.2 fun f _=>by
 unfold stays
 by_cases hx:f.n∈T
 ·rw [h _ hx];simp
 ·simp [hx]
theorem stays_end {T:List Nat} {left:Lit→Bool} {F:List Pf} (h:∀ k,left k=false):F.filter (stays T left)=F.filter (fun f=>!(decide (f.n∈T))):=by
 congr 1;funext f;unfold stays;rw [h];simp
theorem stays_step {T:List Nat} {left:Lit→Bool} {F:List Pf} {n:Nat} (hn:n∈T):F.filter (stays T (fun z=>left z && !z.sameKey (.int .i64 (n:Int))))=dropN n (F.filter (stays T left)):=by
 unfold dropN
 rw [List.filter_filter]
 congr 1;funext f;unfold stays
 by_cases hx:f.n=n
 ·subst hx
  dsimp only
  rw [WideAt.sameKey_self (a:=.int .i64 (f.n:Int)) trivial];simp [hn]
 ·have hk:(Lit.int .i64 (f.n:Int)).sameKey (.int .i64 (n:Int))=false:=sameKey_ne fun e=>by cases e;exact hx (by omega)
  dsimp only
  rw [hk]
  have:(f.n != n)=true:=by simpa using hx
  rw [this];simp
theorem dropN_none {F:List Pf} {n:Nat} (h:∀ f∈F,(f.n:Int)≠(n:Int)):dropN n F=F:=List.filter_eq_self.2 fun f hf=>by have:=h f hf;simp;omega
theorem heldOf_none_iff:∀ {A:List Nat} {F:List Pf} {x:Int},A.length=F.length→heldOf A F x=none→∀ f∈F,(f.n:Int)≠x
 | [],[],_,_,_,f,hf=>by cases hf
 | [],_ :: _,_,h,_,_,_=>by simp at h
 | _ :: _,[],_,h,_,_,_=>by simp at h
 | a :: A,f0 :: F,x,h,h1,f,hf=>by
   rw [heldOf] at h1
   by_cases hx:(f0.n:Int)=x
   ·rw [if_pos hx] at h1;cases h1
   ·rw [if_neg hx] at h1
    rcases List.mem_cons.1 hf with rfl | hf
    ·exact hx
    ·exact heldOf_none_iff (by simpa using h) h1 f hf
theorem says_has {D:DataW Unit} {T:List Nat} (h:Says D (turnOf T)):∀ x∈T,Maps.has D (.int .i64 (x:Int))=true:=fun x hx=>by
 rw [h.has];unfold turnOf;rw [if_pos ⟨x,hx,rfl⟩];rfl
theorem says_held {D:DataW Unit} {A:List Nat} {F:List Pf} (hl:A.length=F.length) (h:Says D (heldOf A F)):∀ f∈F,Maps.has D (.int .i64 (f.n:Int))=true:=fun f hf=>by
 rw [h.has]
 cases hg:heldOf A F f.n with
 | none=>exact absurd rfl (heldOf_none_iff hl hg f hf)
 | some _=>rfl
section
variable {w w':World} {b b':List (Option Nat)} {gd g m1 m2 m1' m2' p e h t:Nat} {A A1 A2:List Nat} {a:Nat} {P:Pl}
theorem PM.newTurned (H:PM w b gd g m1 m2 p e h t A P) :
 PM ((w.alloc (.map #[] 0)).setCell ⟨p,6,none⟩ (.map (some w.heap.size))) b gd g m1 m2 p e h w.heap.size A { P with turned:=[] } ∧
 Turn (allB b g m1 m2 p e h t A) (allB b g m1 m2 p e h w.heap.size A) w ((w.alloc (.map #[] 0)).setCell ⟨p,6,none⟩ (.map (some w.heap.size))):=by
 have hb:Below w.heap.size w (w.alloc (.map #[] 0)):=(Below.refl _ _).alloc (Nat.le_refl _) _
 have H1:=H.below hb
 have hpl:=H.has.lt
 have hph:¬ h=p:=fun x=>by subst x;exact H.held.notcells H.has
 have hpn:¬ w.heap.size=p:=by omega
 have hm:some p∈pb p e h t A:=mem_pb.2 (.inl rfl)
 have ht:=set_turn [some p] p 6 (.map (some w.heap.size)) (w.alloc (.map #[] 0)) (List.mem_singleton.2 rfl)
 have hlog:∀ k,some k∈b++lb g m1 m2→k<w.heap.size:=fun k hk=>H.log.lt hk
 refine ⟨⟨H1.log.far ht (fun k h5 h6=>by cases List.mem_singleton.1 h5;exact H.off p h6 hm),H1.has.set 6 _,H1.ring.kept fun x hx=>Below.heap_setCell _ _ _ _ (fun y=>H.hp (by rw [show p=x from y.symm];exact hx)),H1.held.far hph _, ?_,H.hp,fun x=>by have:=H.held.lt;omega, ?_⟩, ?_⟩
 ·refine ((GM.made (plainElem Tryz.prog 3) w).far (p:=⟨p,6,none⟩) hpn _).congr fun x=>?_
  unfold turnOf;rw [if_neg];rintro ⟨m,hm,_⟩;cases hm
 ·intro k hk1 hk2
  rcases mem_pb.1 hk2 with hk | hk | hk | hk
  ·exact H.off k hk1 (mem_pb.2 (.inl hk))
  ·exact H.off k hk1 (mem_pb.2 (.inr (.inl hk)))
  ·have:=hlog k hk1;omega
  ·exact H.off k hk1 (mem_pb.2 (.inr (.inr (.inr hk))))
 ·have h1:=(Turn.below (allB b g m1 m2 p e h t A) hb).trans (set_turn _ p 6 (.map (some w.heap.size)) _ (List.mem_append_right _ hm))
  refine ⟨h1.os,h1.tape,h1.output,h1.size,h1.block,fun k hk=>?_⟩
  rcases List.mem_append.1 hk with hk | hk
  ·exact .inl (List.mem_append_left _ hk)
  ·rcases mem_pb.1 hk with hk | hk | hk | hk
   ·exact .inl (List.mem_append_right _ (mem_pb.2 (.inl hk)))
   ·exact .inl (List.mem_append_right _ (mem_pb.2 (.inr (.inl hk))))
   ·exact .inr (Nat.le_of_eq hk.symm)
   ·exact .inl (List.mem_append_right _ (mem_pb.2 (.inr (.inr (.inr hk)))))
end
theorem turn_grown {w w':World} {r:Nat} {b:List (Option Nat)} (h:w.grownBy w' (some r)) (hr:some r∈b):Turn b b w w' :=
 ⟨h.os,h.tape,h.output,h.size,fun k hk hn=>h.block k hk (fun e=>hn (e ▸ hr)),fun k hk=>.inl hk⟩
theorem Turn.cons {w w':World} {b b':List (Option Nat)} (h:Turn b b' w w') (a:Option Nat):Turn (a :: b) (a :: b') w w' :=
 ⟨h.os,h.tape,h.output,h.size,fun k hk hn=>h.block k hk (fun h2=>hn (List.mem_cons_of_mem _ h2)),fun k hk=>by
   rcases List.mem_cons.1 hk with hk | hk
   ·exact .inl (hk ▸ List.mem_cons_self ..)
   ·exact (h.new k hk).imp (List.mem_cons_of_mem _) id⟩
theorem Turn.tail {w w':World} {b b':List (Option Nat)} {a:Option Nat} (h:Turn b (a :: b') w w'):Turn b b' w w':=⟨h.os,h.tape,h.output,h.size,h.block,fun k hk=>h.new k (List.mem_cons_of_mem _ hk)⟩
theorem allB_sub {b:List (Option Nat)} {g m1 m2 p e h t k:Nat} {A A':List Nat} (hs:∀ x∈A',x∈A) (hk:some k∈allB b g m1 m2 p e h t A'):some k∈allB b g m1 m2 p e h t A:=by
 rcases List.mem_append.1 hk with hk | hk
 ·exact List.mem_append_left _ hk
 ·refine List.mem_append_right _ (mem_pb.2 ?_)
  rcases mem_pb.1 hk with hk | hk | hk | hk
  ·exact .inl hk
  ·exact .inr (.inl hk)
  ·exact .inr (.inr (.inl hk))
  ·refine .inr (.inr (.inr ?_))
   rcases List.mem_cons.1 hk with hk | hk
   ·rw [hk];exact List.mem_cons_self ..
   ·exact List.mem_cons_of_mem _ (hs k hk)
def RollPost (B:List (Option Nat)) (w:World) (gd g p e h:Nat) (P:Pl) (E:Int) (en:Ending) (w':World):Prop :=
 en = .returned (.int .i64 E)∧∃ b' m1' m2' t' A',PM w' b' gd g m1' m2' p e h t' A' P∧Turn B (allB b' g m1' m2' p e h t' A') w w'
set_option maxRecDepth 100000 in
set_option maxHeartbeats 6400000 in
theorem pool_Rollback (b:List (Option Nat)) (gd g m1 m2 p e h t:Nat) (A:List Nat) (P:Pl) (w:World) (H:PM w b gd g m1 m2 p e h t A P) (ok:P.ok) (ok2:P.rolled.ok) (fit:Fit P.L.back.D 1) :
 Calls Tryz.prog 83 #[.pointer (some ⟨p,0,none⟩)] w (RollPost (allB b g m1 m2 p e h t A) w gd g p e h P.rollback.1 P.rollback.2):=by
 have HP:=Lib.hid H
 obtain ⟨DH,hown,hsay,hsz⟩:=H.held
 have x3:w.cell? ⟨p,3,none⟩=some (.map (some h)):=H.has.cell 3
 have SAY:=Lib.hid hsay
 have hsl:=hown.size_le
 have OK:=Lib.hid ok
 have OK2:=Lib.hid ok2
 have FIT:=Lib.hid fit
 have hpl:=H.has.lt
 have HPL:=Lib.hid H.has.lt
 clear H ok ok2 fit hsay hsz
 go_enter Tryz.func83,Tryz.ntmps83
 go_wp2_with (first
  | (at_range;refine wpList_range_own _ rfl _ 103 rfl 3 102 lawInt Tryz.underlying103 _ h _ _ rfl hown ?_;intro w0 hrg0 hg0 hs0)
  | go_in)
 go_frame
 have BL0:=Lib.hid ((Below.refl w.heap.size w).grown hg0 (by omega) (fun j hj=>by cases hj))
 obtain ⟨r,hr⟩:∃ r,w.heap.size=r:=⟨_,rfl⟩
 rw [hr] at hrg0
 simp only [hr]
 have HR:=Lib.hid hr
 clear hr x3 hown hpl hs0 hg0
 go_loopw [16] (fun _ wr=>∃ (left:Lit→Bool) (cnt:Nat),wr.ranges Tryz.prog 3 frElem h r P.ring.length DH left cnt∧Below w.heap.size w wr∧∀ f∈P.ring,left (.int .i64 (f.n:Int))=false→f.pins=0)
  (fun _ wr=>wr.rangeLeft h r)
 case atStart=>exact ⟨_,_,hrg0,BL0.out,fun f hf hl=>by rw [says_held HP.out.ring.len SAY.out f hf] at hl;cases hl⟩
 case round =>
  obtain ⟨left,cnt,hrg,hbl,hpins⟩:=hrel
  have HB:=Lib.hid hbl
  have HPI:=Lib.hid hpins
  clear hrg0 hpins
  go_wp2_with (first
   | (at_next;refine wpList_next_fr _ rfl _ rfl h r _ DH left cnt rfl hrg _ SAY.out ?_ ?_)
   | go_in)
  ·intro hc0 hl0
   have H1:=Lib.hid (HP.out.below hbl)
   have AP:=Lib.hid (fun f hf=>HPI.out f hf (hl0 _))
   have T1:=Lib.hid (Turn.below (allB b g m1 m2 p e h t A) hbl)
   have x0:wr.cell? ⟨p,0,none⟩=some (ptrB g):=H1.out.has.cell 0
   have BK:=Lib.hid (pm_Back H1.out OK.out.log)
   clear hrg hbl hl0 hc0
   go_wp2_with (first
    | (go_at_call 163;refine BK.out.mono ?_;rintro en w1 ⟨rfl,b1,n1,n2,hpm,ht⟩;have HM:=Lib.hid hpm;have HT:=Lib.hid (T1.out.trans ht);have y6:w1.cell? ⟨p,6,none⟩=some (.map (some t)):=hpm.has.cell 6;obtain ⟨DT,hownT,saysT,szT⟩:=hpm.turned;clear hpm ht)
    | (at_range;refine wpList_range_own _ rfl _ 104 rfl 3 3 lawInt Tryz.underlying104 _ t _ _ rfl hownT ?_;intro w2 hrg2 hg2 hs2)
    | go_in)
   go_frame
   have BL2:=(Below.refl w1.heap.size w1).grown hg2 (by omega) (fun j hj=>by cases hj)
   have HSZ:=Lib.hid HT.out.size
   obtain ⟨r2,hr2⟩:∃ r,w1.heap.size=r:=⟨_,rfl⟩
   have LT2:Hid (∀ k,some k∈allB b1 g n1 n2 p e h t A→k<r2):=fun k hk=>hr2 ▸ HM.out.lt k hk
   have H2:=Lib.hid (HM.out.below BL2)
   have T2:=Lib.hid ((HT.out.trans (Turn.below _ BL2)).more (a:=r2) (by have:=HSZ.out;omega))
   rw [hr2] at hrg2
   simp only [hr2]
   clear x0 y6 hownT szT hs2 hg2 BL2 hr2 HM HT H1 T1 BK HB HR HSZ
   have SAYT:=Lib.hid saysT
   clear saysT
   go_loopw [35] (fun _ wq=>∃ (left:Lit→Bool) (cnt:Nat) (A':List Nat),wq.ranges Tryz.prog 3 (plainElem Tryz.prog 3) t r2 P.turned.length DT left cnt∧PM wq b1 gd g n1 n2 p e h t A' { P with L:=P.L.back,ring:=P.ring.filter (stays P.turned left) } ∧
    Turn (allB b g m1 m2 p e h t A) (some r2 :: allB b1 g n1 n2 p e h t A') w wq∧∀ k∈A',k∈A)
    (fun _ wq=>wq.rangeLeft t r2)
   case atStart=>exact ⟨_,_,A,hrg2,by rw [stays_start (says_has SAYT.out)];exact H2.out,T2.out,fun _ hk=>hk⟩
   case round =>
    obtain ⟨left2,cnt2,A',hrg3,hpm3,ht3,hsub⟩:=hrel
    have HM3:=Lib.hid hpm3
    have HT3:=Lib.hid ht3
    have SUB:=Lib.hid hsub
    clear hpm3 ht3 hsub hrg2 H2 T2
    go_wp2_with (first
     | (at_next;refine wpList_next_ranges_ii _ rfl _ rfl 3 3 .i64 .i64 lawInt Tryz.underlying3 Tryz.underlying3 t r2 _ _ _ _ rfl hrg3 ?_ ?_)
     | go_in)
    ·intro hc0 hl0
     have e2:=stays_end (T:=P.turned) (F:=P.ring) hl0
     have HM4:=HM3.out
     rw [e2] at HM4
     have NT:=HM4.newTurned
     rw [World.setCell_alloc_past _ _ _ _ HM4.has.lt] at NT
     have NT:=Lib.hid NT
     have TT:=Lib.hid (HT3.out.tail.trans NT.out.2)
     have PG:Hid (∀ wz,PM wz b1 gd g n1 n2 p e h wr.heap.size A' { P with L:=P.L.back,ring:=P.ring.filter (fun f=>!(decide (f.n∈P.turned))),turned:=[] }→Calls Tryz.prog 39 #[ptrB g] wz fun e w'=>e = .returned (.int .i64 P.L.pages)∧wz=w'):=fun wz hz=>wal_Pages b1 gd g n1 n2 P.L.back.rw wz hz.log
     have S4:=NT.out.1.set (P':=P.rolled) 4 (.int .i64 P.L.pages) rfl rfl rfl rfl
     rw [World.setCell_alloc_past _ _ _ _ (by rw [World.size_setCell];exact HM4.has.lt)] at S4
     have S4:=Lib.hid S4
     have RD:=Lib.hid (pool_Read b1 gd g n1 n2 p e h wr.heap.size A' P.rolled 0 ⟨by omega,by omega⟩ _ S4.out.1 OK2.out FIT.out)
     have x6:wr.cell? ⟨p,6,none⟩=some (.map (some t)):=HM4.has.cell 6
     have x4:wr.cell? ⟨p,4,none⟩=some (.int .i64 P.pages):=HM4.has.cell 4
     have x0:wr.cell? ⟨p,0,none⟩=some (ptrB g):=HM4.has.cell 0
     have xf:=HM4.has.frozen
     have xl:=HM4.has.lt
     have hmk:=make_ii
     have HR0:Hid (P.rollback=P.rolled.root):=Lib.hid (if_neg fun hx=>by
      obtain ⟨f,hf,hf2⟩:=List.any_eq_true.1 hx
      have:=AP.out f hf
      rw [this] at hf2;cases hf2)
     have GOK:=Lib.hid (get_ok OK2.out 0)
     have HS:Hid (P.rolled.root=if (P.rolled.get 0).2=0 then (match openP (P.rolled.get 0).1.lastF.s with
      | none=>({ (P.rolled.get 0).1 with free:=0 },4)
      | some pg=>({ (P.rolled.get 0).1 with free:=pg.2.1 },0)) else P.rolled.get 0):=rfl
     have TX:Hid (P.rolled.text 0=if (P.rolled.get 0).2=0 then (P.rolled.get 0).1.lastF.s else ⟨#[]⟩):=rfl
     obtain ⟨T,hT⟩:∃ T,P.rolled.text 0=T:=⟨_,rfl⟩
     obtain ⟨Q,hQ⟩:∃ Q,(P.rolled.get 0).1=Q:=⟨_,rfl⟩
     obtain ⟨E,hE⟩:∃ E,(P.rolled.get 0).2=E:=⟨_,rfl⟩
     have hPQ:P.rolled.get 0=(Q,E):=by rw [← hQ,← hE]
     rw [hT,hQ,hE] at RD TX
     rw [hQ] at GOK
     rw [hPQ] at HS
     rw [← HR0.out] at HS
     dsimp only at HS
     clear hT hQ hE hPQ HR0 HM4 e2 hl0 hc0 hrg3 HM3 HT3
     by_cases hE0:E=0
     ·subst hE0
      have HT:=Lib.hid (TX.out.trans (if_pos rfl))
      have HS2:=Lib.hid (HS.out.trans (if_pos rfl))
      rw [← HT.out] at HS2
      have TZ:T.size≤1048576:=by rw [HT.out];exact Nat.le_trans (lastF_size GOK.out) (by omega)
      have OP:=Lib.hid (fun w=>page_Open T TZ w)
      clear HS TX TZ
      cases ho:openP T with
      | none =>
        have OP2:Hid (∀ w,Calls Tryz.prog 124 #[.string T] w fun e w'=>e = .returned (.tuple #[.agg #[.int .i64 0,.int .i64 0,.slice none 0 0],.int .i64 4])∧Below w.heap.size w w'):=fun w=>by
         have:=OP.out w
         rw [ho] at this;exact this
        have HS3:Hid (P.rollback=({ Q with free:=0 },4)):=by have:=HS2.out;rw [ho] at this;exact this
        clear OP HS2 ho
        go_wp2_with (first
         | (go_at_call 39;refine (PG.out _ NT.out.1).mono ?_;rintro en w4 ⟨rfl,rfl⟩)
         | (go_at_call 70;refine RD.out.mono ?_;rintro en w5 ⟨rfl,b5,n5,n6,A5,hpm5,ht5⟩)
         | (go_at_call 124;refine (OP2.out _).mono ?_;rintro en w6 ⟨rfl,hb6⟩;have HM6:=Lib.hid (hpm5.below hb6);have y5:w6.cell? ⟨p,5,none⟩=some (.int .i64 Q.free):=HM6.out.has.cell 5;have yf:=HM6.out.has.frozen;have yl:=HM6.out.has.lt)
         | go_in)
        go_ret
        rw [HS3.out]
        have q2:=HM6.out.set (P':={ Q with free:=0 }) 5 (.int .i64 0) rfl rfl rfl rfl
        have q3:Below (w6.setCell ⟨p,5,none⟩ (.int .i64 0)).heap.size (w6.setCell ⟨p,5,none⟩ (.int .i64 0)) ((w6.setCell ⟨p,5,none⟩ (.int .i64 0)).alloc (.cells #[.int .i64 0,.int .i64 0,.slice none 0 0] 114)):=(Below.refl _ _).alloc (Nat.le_refl _) _
        exact ⟨rfl,b5,n5,n6,_,A5,q2.1.below q3,((((TT.out.trans S4.out.2).trans ht5).trans (Turn.below _ hb6)).trans q2.2).trans (Turn.below _ q3)⟩
      | some pg =>
        obtain ⟨k,l,cs⟩:=pg
        have OP2:Hid (∀ w,Calls Tryz.prog 124 #[.string T] w fun e w'=>∃ A c,e = .returned (.tuple #[.agg #[.int .i64 k,.int .i64 l,.slice A cs.length c],.int .i64 0])∧SS w' A cs.length cs∧Below w.heap.size w w'):=fun w=>by
         have:=OP.out w
         rw [ho] at this;exact this
        have HS3:Hid (P.rollback=({ Q with free:=l },0)):=by have:=HS2.out;rw [ho] at this;exact this
        clear OP HS2 ho
        go_wp2_with (first
         | (go_at_call 39;refine (PG.out _ NT.out.1).mono ?_;rintro en w4 ⟨rfl,rfl⟩)
         | (go_at_call 70;refine RD.out.mono ?_;rintro en w5 ⟨rfl,b5,n5,n6,A5,hpm5,ht5⟩)
         | (go_at_call 124;refine (OP2.out _).mono ?_;rintro en w6 ⟨A6,c6,rfl,hss,hb6⟩;clear hss;have HM6:=Lib.hid (hpm5.below hb6);have y5:w6.cell? ⟨p,5,none⟩=some (.int .i64 Q.free):=HM6.out.has.cell 5;have yf:=HM6.out.has.frozen;have yl:=HM6.out.has.lt)
         | go_in)
        go_ret
        rw [HS3.out]
        have q2:=HM6.out.set (P':={ Q with free:=l }) 5 (.int .i64 l) rfl rfl rfl rfl
        have q3:Below (w6.setCell ⟨p,5,none⟩ (.int .i64 l)).heap.size (w6.setCell ⟨p,5,none⟩ (.int .i64 l)) ((w6.setCell ⟨p,5,none⟩ (.int .i64 l)).alloc (.cells #[.int .i64 k,.int .i64 l,.slice A6 cs.length c6] 114)):=(Below.refl _ _).alloc (Nat.le_refl _) _
        exact ⟨rfl,b5,n5,n6,_,A5,q2.1.below q3,((((TT.out.trans S4.out.2).trans ht5).trans (Turn.below _ hb6)).trans q2.2).trans (Turn.below _ q3)⟩
     ·have HS2:=Lib.hid (HS.out.trans (if_neg hE0))
      clear HS TX
      go_wp2_with (first
       | (go_at_call 39;refine (PG.out _ NT.out.1).mono ?_;rintro en w4 ⟨rfl,rfl⟩)
       | (go_at_call 70;refine RD.out.mono ?_;rintro en w5 ⟨rfl,b5,n5,n6,A5,hpm5,ht5⟩)
       | go_in)
      go_ret
      rw [HS2.out]
      exact ⟨rfl,b5,n5,n6,_,A5,hpm5,(TT.out.trans S4.out.2).trans ht5⟩
    ·intro x c w3 cnt3 hwx hwc hlx hat hrg4 hlt3 hg4 hs4 hen
     obtain ⟨c',hc',_⟩:=says_some SAYT.out hat
     obtain ⟨n,hn,rfl⟩:=turnOf_mem hc'
     have hoff:some r2∉allB b1 g n1 n2 p e h t A':=fun hk=>by have:=LT2.out r2 (allB_sub SUB.out hk);omega
     have H4:=Lib.hid (HM3.out.far (turn_grown hg4 (List.mem_singleton.2 rfl)) (fun k hk hk2=>hoff (by rw [List.mem_singleton.1 hk] at hk2;exact hk2)))
     have T4:=Lib.hid (HT3.out.trans (turn_grown hg4 (List.mem_cons_self ..)))
     have z3:w3.cell? ⟨p,3,none⟩=some (.map (some h)):=H4.out.has.cell 3
     have HG:=Lib.hid H4.out.held
     have HL4:=Lib.hid H4.out.ring.len
     have STEP:=Lib.hid (stays_step (left:=left2) (F:=P.ring) hn)
     have Fz9:Hid (∀ f∈P.ring.filter (stays P.turned left2),f.n≤4294967296):=fun f hf=>by have:=OK.out.pages f (List.mem_filter.1 hf).1;have:=OK.out.few;omega
     have NM:Hid (((P.ring.filter (stays P.turned left2)).map (·.n)).Nodup):=Lib.hid (OK.out.names.sublist ((List.filter_sublist).map _))
     obtain ⟨F',hF'⟩:∃ F',P.ring.filter (stays P.turned left2)=F':=⟨_,rfl⟩
     rw [hF'] at H4 HG HL4 STEP Fz9 NM
     clear hF' hc' hat
     cases hh:heldOf A' F' n with
     | none =>
       have HK:Hid (ptrO (heldOf A' F' n) = .pointer none):=Lib.hid (by rw [hh];rfl)
       have HN:=Lib.hid (dropN_none (heldOf_none_iff HL4.out hh))
       clear hh
       go_wp2_with (first
        | (at_lookup;refine wpList_lookup_fr _ rfl _ _ rfl h _ (heldOf A' F') rfl HG.out n rfl hwx ?_;rw [HK.out])
        | go_in)
       go_roundw
       case rel=>exact ⟨_,cnt3,A',hrg4,by rw [STEP.out,HN.out];exact H4.out,T4.out,SUB.out⟩
       case measure=>rw [hrg4.left_eq,hrg3.left_eq];exact hlt3
     | some a =>
       have HK:Hid (ptrO (heldOf A' F' n)=ptrB a):=Lib.hid (by rw [hh];rfl)
       obtain ⟨A1,A2,F1,f,F2,hA',hF2,hl,hfn⟩:=heldOf_split hh
       subst hA'
       obtain rfl:f.n=n:=by omega
       have FN:=Fz9.out f (by rw [hF2];exact List.mem_append_right _ (List.mem_cons_self ..))
       have LV:=Lib.hid (pm_leaveF H4.out hF2 hl NM.out FN)
       have HN:=Lib.hid (show dropN f.n F'=F1++F2 by have:=NM.out;rw [hF2] at this ⊢;exact dropN_mid this)
       have TN:Hid (some t∉(some h :: (e :: (A1++a :: A2)).map some)):=fun hk=>by
        rcases List.mem_cons.1 hk with hk | hk
        ·cases hk;exact H4.out.ht rfl
        ·exact H4.out.ring.off H4.out.turned (mem_somes.1 hk)
       have RN:Hid (some r2∉(some h :: (e :: (A1++a :: A2)).map some)):=fun hk=>hoff (List.mem_append_right _ (mem_pb.2 (by
        rcases List.mem_cons.1 hk with hk | hk
        ·cases hk;exact .inr (.inl rfl)
        ·exact .inr (.inr (.inr (mem_somes.1 hk))))))
       have HF2:=Lib.hid hF2
       clear hh hl hF2 FN hoff hfn
       go_wp2_with (first
        | (at_lookup;refine wpList_lookup_fr _ rfl _ _ rfl h _ (heldOf (A1++a :: A2) F') rfl HG.out f.n rfl hwx ?_;rw [HK.out])
        | (go_at_call 164;refine LV.out.mono ?_;rintro e2 w4 ⟨⟨rfl,hpm5,_,ht5⟩,hfine⟩)
        | go_in)
       go_roundw
       case rel =>
        refine ⟨_,cnt3,A1++A2,ranges_same hrg4 (hfine.block t H4.out.turned.lt TN.out) (hfine.block r2 hrg4.lt RN.out), ?_,T4.out.trans (ht5.cons _),fun k hk=>SUB.out k ?_⟩
        ·rw [STEP.out,HN.out];exact hpm5
        ·simp only [List.mem_append,List.mem_cons] at hk ⊢
         rcases hk with hk | hk
         ·exact .inl hk
         ·exact .inr (.inr hk)
       case measure =>
        rw [(ranges_same hrg4 (hfine.block t H4.out.turned.lt TN.out) (hfine.block r2 hrg4.lt RN.out)).left_eq,hrg3.left_eq];exact hlt3
  ·intro x c w1 cnt1 hsx hlx hrg1 hlt hg1 hs1 hen
   obtain ⟨A1,A2,F1,f,F2,hA,hF,hl,hfn⟩:=heldOf_split hsx
   subst hA
   subst hfn
   have HB1:=Lib.hid (HB.out.grown hg1 HB.out.size (fun j hj=>by cases hj;exact Nat.le_of_eq HR.out))
   have hat:=HP.out.ring
   rw [hF] at hat
   have hat:=(hat.at hl).belowS HB1.out
   have a2:w1.cell? ⟨c,2,none⟩=some (.int .i64 f.pins):=hat.cell 2
   have HF:=Lib.hid hF
   have H1:=Lib.hid (HP.out.below HB1.out)
   have ND:=Lib.hid OK.out.names
   clear hat hl hF hsx hbl
   by_cases hp0:f.pins=0
   ·rw [hp0] at a2
    have a2:w1.cell? ⟨c,2,none⟩=some (.int .i64 0):=a2
    go_wp2_with go_in
    go_roundw
    case rel =>
     refine ⟨_,cnt1,hrg1,HB1.out,fun f2 hf2 hlf=>?_⟩
     by_cases hx:f2.n=f.n
     ·have:f2=f:=by
       have hnd:=ND.out
       rw [HF.out] at hnd hf2
       obtain ⟨q1,q2,_⟩:=names_split hnd
       rcases List.mem_append.1 hf2 with h1 | h1
       ·exact absurd (by rw [hx]) (q1 f2 h1)
       ·rcases List.mem_cons.1 h1 with h1 | h1
        ·exact h1
        ·exact absurd (by rw [hx]) (q2 f2 h1)
      rw [this];exact hp0
     ·have hk:(Lit.int .i64 (f2.n:Int)).sameKey (.int .i64 (f.n:Int))=false:=sameKey_ne fun e=>hx (by have h5:=(Lit.int.inj e).2;omega)
      (try dsimp only at hlf)
      rw [hk] at hlf
      exact HPI.out f2 hf2 (by simpa using hlf)
    case measure=>rw [hrg1.left_eq,hrg.left_eq];exact hlt
   ·have g0:(0:Int)<(f.pins:Int):=by omega
    go_wp2_with go_in
    go_ret
    have HE:P.rollback=(P,6):=if_pos (List.any_eq_true.2 ⟨f,by rw [HF.out];exact List.mem_append_right _ (List.mem_cons_self ..),by simpa using (by omega:0<f.pins)⟩)
    rw [HE]
    exact ⟨rfl,b,m1,m2,t,_,H1.out,Turn.below _ HB1.out⟩
end Go.Proofs.YtjihboddejaelaaGreat
namespace Go.Proofs.YtjihboddejaelaaGreat
open Go.RowKit
open Go.BigFrame
open Go.Maps
theorem pInfoInt:(Tryz.prog.info? 3).map (fun i=>(i.zero,i.size,i.bytes))=some (some (.int .i64 0),1,8):=by kernel_rfl
def pNums (l:List Nat):List Value:=l.map (fun n:Nat=>.int .i64 (n:Int))
theorem pNums_one {l:List Nat}:∀ u∈pNums l,u.oneCell'=true:=fun u hu=>by
 obtain ⟨v,_,rfl⟩:=List.mem_map.1 hu;rfl
def NL (w:World) (A:Option Addr) (l:List Nat):Prop :=
 0<l.length→∃ b,A=some ⟨b,0,none⟩∧b<w.heap.size∧∀ i k:Nat,l[i]? = some k→w.cell? ⟨b,i,none⟩=some (.int .i64 (k:Int))
theorem NL.turn {w w':World} {A:Option Addr} {l:List Nat} {b b':List (Option Nat)} (h:NL w A l) (ht:Turn b b' w w') (hn:∀ k,A.map (·.block)=some k→some k∉b):NL w' A l:=fun h0=>by
 obtain ⟨k,rfl,hl,hc⟩:=h h0
 refine ⟨k,rfl,Nat.lt_of_lt_of_le hl ht.size,fun i x hx=>?_⟩
 exact (World.cell?_of_block (ht.block k hl (hn k rfl))).trans (hc i x hx)
theorem perm_sorted:∀ {l1 l2:List Nat},l1.Pairwise (·≤ ·)→l2.Pairwise (·≤ ·)→l1.Perm l2→l1=l2
 | [],l2,_,_,h=>(List.Perm.nil_eq h)
 | a :: l1,[],_,_,h=>by have:=h.length_eq;simp at this
 | a :: l1,b :: l2,h1,h2,h=>by
   rw [List.pairwise_cons] at h1 h2
   have e:a=b:=by
    have ha:a∈b :: l2:=h.mem_iff.1 (List.mem_cons_self ..)
    have hb:b∈a :: l1:=h.mem_iff.2 (List.mem_cons_self ..)
    rcases List.mem_cons.1 ha with ha | ha
    ·exact ha
    ·rcases List.mem_cons.1 hb with hb | hb
     ·exact hb.symm
     ·have:=h1.1 b hb;have:=h2.1 a ha;omega
   subst e
   rw [perm_sorted h1.2 h2.2 ((List.perm_cons a).1 h)]
theorem sort_perm {l1 l2:List Nat} (h:l1.Perm l2):l1.mergeSort (·≤ ·)=l2.mergeSort (·≤ ·):=by
 have hs:∀ l:List Nat,(l.mergeSort (fun a b=>decide (a≤b))).Pairwise (·≤ ·):=fun l=>by
  have:=List.pairwise_mergeSort (le:=fun a b:Nat=>decide (a≤b)) (fun a b c h1 h2=>by simp at h1 h2 ⊢;omega) (fun a b=>by simp;omega) l
  exact this.imp (fun h=>by simpa using h)
 exact perm_sorted (hs l1) (hs l2) (((List.mergeSort_perm l1 _).trans h).trans (List.mergeSort_perm l2 _).symm)
theorem sort_ints (l:List Nat):(l.map (fun n:Nat=>(n:Int))).mergeSort (fun x y=>decide (x≤y))=(l.mergeSort (·≤ ·)).map (fun n:Nat=>(n:Int)) :=
 (List.map_mergeSort (f:=fun n:Nat=>(n:Int)) (r:=fun a b=>decide (a≤b)) (s:=fun x y=>decide (x≤y)) (fun a _ b _=>by simp)).symm
def SortPost (w:World) (base:Nat) (v:Value) (l:List Nat) (en:Ending) (w':World):Prop :=
 en = .returned (.tuple #[])∧w.grownBy w' v.ownBlock∧∃ A c,v = .slice A l.length c∧NL w' A (l.mergeSort (·≤ ·))∧∀ k,A.map (·.block)=some k→base≤k∧k<w'.heap.size
theorem pool_sort {w:World} {base:Nat} {v:Value} {l:List Nat} (h:w.ownsRow base 3 1 v l.length (pNums l)) (hn:l.length≤1000000):Calls Tryz.prog 96 #[v] w (SortPost w base v l):=by
 rcases h.2 with ⟨rfl,h0⟩ | ⟨g,cap,cur,rfl,hb,hg,hnc,hcm,hcs,hxs⟩
 ·refine (Tryz.slices_Sort_int_none none 0 w).mono ?_
  rintro en w' ⟨rfl,rfl⟩
  have hl:l=[]:=List.eq_nil_of_length_eq_zero h0
  subst hl
  exact ⟨rfl,grownBy_refl _ _,none,0,rfl,fun h1=>by simp at h1,fun k hk=>by cases hk⟩
 ·have hlt:g<w.heap.size:=(Array.getElem?_eq_some_iff.1 hg).1
  have hH:Sort.Holds (Value.int .i64) w g 0 (l.map (fun n:Nat=>(n:Int))).toArray:=fun j hj=>by
   have hj':j<l.length:=by simpa using hj
   have hget:(l.map (fun n:Nat=>(n:Int))).toArray[j]! = (l[j]:Int):=by
    rw [getElem!_pos _ j hj];simp
   have hc:cur[j]? = some (.int .i64 (l[j]:Int)):=by
    have:(cur.toList.take (l.length*1))[j]? = (pNums l)[j]? := by rw [hxs]
    rw [List.getElem?_take,if_pos (by omega)] at this
    simpa [pNums,hj'] using this
   rw [hget]
   exact ⟨by simp [World.cell?,hg,hc],by simp [World.frozen?,hg]⟩
  have e:=Tryz.slices_Sort_int g 0 cap (l.map (fun n:Nat=>(n:Int))) w hH hlt (by simp;omega)
  rw [List.length_map] at e
  refine e.mono ?_
  rintro en w' ⟨rfl,n,os,rfl⟩
  rw [sort_ints]
  have hH2:Sort.Holds (Value.int .i64) (Sort.ahead w n) g 0 (l.map (fun n:Nat=>(n:Int))).toArray:=hH
  have hsz:((l.mergeSort (·≤ ·)).map (fun n:Nat=>(n:Int))).toArray.size=(l.map (fun n:Nat=>(n:Int))).toArray.size:=by simp [List.length_mergeSort]
  have hlt2:g<(Sort.putRow (Value.int .i64) (Sort.ahead w n) g 0 ((l.mergeSort (·≤ ·)).map (fun n:Nat=>(n:Int))).toArray).heap.size:=by rw [Sort.size_putRow];exact hlt
  refine ⟨rfl,⟨rfl,rfl,rfl, ?_,fun i hi hne=>?_⟩,some ⟨g,0,none⟩,cap,rfl,fun _=>⟨g,rfl, ?_,fun i k hk=>?_⟩,fun k hk=>?_⟩
  ·rw [Sort.size_grow,Sort.size_putRow];exact Nat.le_add_right _ _
  ·rw [Sort.heap_grow_old _ _ (by rw [Sort.size_putRow];exact hi)]
   have hne2:¬ g=i:=fun e=>hne (by rw [e];rfl)
   simp [Sort.putRow,Sort.mapBlock,Array.getElem?_modify,hne2,Sort.ahead]
  ·rw [Sort.size_grow];omega
  ·have hik:i<(l.mergeSort (·≤ ·)).length:=by
    rcases Nat.lt_or_ge i (l.mergeSort (·≤ ·)).length with h1 | h1
    ·exact h1
    ·rw [List.getElem?_eq_none h1] at hk;cases hk
   rw [Sort.cell?_grow _ _ _ hlt2]
   have:=Sort.cell?_putRow (Value.int .i64) (Sort.ahead w n) g 0 _ ((l.mergeSort (·≤ ·)).map (fun n:Nat=>(n:Int))).toArray hH2 hsz i (by simpa using hik)
   rw [Nat.zero_add] at this
   rw [this,getElem!_pos _ i (by simpa using hik)]
   have e3:(l.mergeSort (·≤ ·))[i]=k:=by rw [List.getElem?_eq_getElem hik] at hk;exact Option.some.inj hk
   simp [e3]
  ·cases hk
   exact ⟨hb,show g<_ by rw [Sort.size_grow];omega⟩
end Go.Proofs.YtjihboddejaelaaGreat
namespace Go.Proofs.YtjihboddejaelaaGreat
open Go.RowKit
open Go.BigFrame
open Go.Maps
section
variable {w w':World} {b b':List (Option Nat)} {gd g m1 m2 m1' m2' p e h t:Nat} {A A1 A2:List Nat} {a:Nat} {P:Pl}
theorem pm_Commit (H:PM w b gd g m1 m2 p e h t A P) (ok:P.L.ok) (fit:Fit P.L.D 4) (n:Int) (s:ByteArray) (q:Int) :
 Calls Tryz.prog 40 #[ptrB g,.int .i64 n,.string s,.int .i64 q] w (PmPost (allB b g m1 m2 p e h t A) w gd g p e h t A { P with L:=P.L.commit n s q } (.int .i64 (P.L.commitE n s q))):=by
 refine (lr_Commit H.log ok fit n s q).mono fun en w' hp=>?_
 obtain ⟨he,b',m1',m2',h1,h2⟩:=hp
 obtain ⟨h3,h4⟩:=H.onLog h1 h2
 exact ⟨he,b',m1',m2',h3,h4⟩
theorem pm_Checkpoint (H:PM w b gd g m1 m2 p e h t A P) (ok:P.L.ok) (hd:P.L.D.down=false) (fit:Fit P.L.D 70000) :
 Calls Tryz.prog 99 #[ptrB g] w (PmPost (allB b g m1 m2 p e h t A) w gd g p e h t A { P with L:=P.L.checkpoint.1 } (.int .i64 P.L.checkpoint.2)):=by
 obtain ⟨e1,e2⟩:=rw_checkpoint ok hd
 rw [e2]
 refine (wal_Checkpoint b gd g m1 m2 P.L.rw w H.log fit ok.slot ok.number (show P.L.pages≤_ by have:=ok.pages;omega) (fun x=>by show lastAt P.L.fs x≤_;have:=lastAt_le P.L.fs x;have:=ok.len;omega)).mono fun en w' hp=>?_
 ·rw [← e1] at hp
  obtain ⟨he,b',m1',m2',h1,h2⟩:=hp
  obtain ⟨h3,h4⟩:=H.onLog h1 h2
  exact ⟨he,b',m1',m2',h3,h4⟩
end
theorem clean_mid {F1 F2:List Pf} {f:Pf} (h:((F1++f :: F2).map (·.n)).Nodup):cleanN f.n (F1++f :: F2)=F1++{ f with dirty:=false } :: F2:=by
 obtain ⟨h1,h2,_⟩:=names_split h
 have hid:∀ F:List Pf,(∀ q∈F,(q.n:Int)≠(f.n:Int))→F.map (fun q=>if q.n=f.n then { q with dirty:=false } else q)=F:=fun F hF=>by
  have:F.map (fun q=>if q.n=f.n then { q with dirty:=false } else q)=F.map id:=List.map_congr_left fun q hq=>by
   rw [if_neg (fun hx=>hF q hq (by rw [hx]))];rfl
  rw [this,List.map_id]
 unfold cleanN
 rw [List.map_append,List.map_cons,hid F1 h1,hid F2 h2,if_pos rfl]
theorem text_mid {F1 F2:List Pf} {f:Pf} (h:((F1++f :: F2).map (·.n)).Nodup):textN f.n (F1++f :: F2)=f.s:=by
 obtain ⟨h1,_,_⟩:=names_split h
 unfold textN
 rw [find_at (x:=((f.n:Nat):Int)) h1 rfl];rfl
theorem clean_names (n:Nat) (F:List Pf):(cleanN n F).map (·.n)=F.map (·.n):=by
 unfold cleanN
 rw [List.map_map]
 refine List.map_congr_left fun f _=>?_
 show (if f.n=n then { f with dirty:=false } else f).n=f.n
 split <;> rfl
theorem clean_size {n:Nat} {F:List Pf} (h:∀ f∈F,f.s.size=1024):∀ f∈cleanN n F,f.s.size=1024:=fun f hf=>by
 obtain ⟨f0,h0,rfl⟩:=List.mem_map.1 hf
 split
 ·exact h f0 h0
 ·exact h f0 h0
theorem Pl.ok.clean {P:Pl} (ok:P.ok) {L':Lg} (hL:L'.ok) (n:Nat):Pl.ok { P with L:=L',ring:=cleanN n P.ring } :=
 ⟨hL,by show ((cleanN n P.ring).map (·.n)).Nodup;rw [clean_names];exact ok.names,
  fun f hf=>by
   have h1:f.n∈(cleanN n P.ring).map (·.n):=List.mem_map.2 ⟨f,hf,rfl⟩
   rw [clean_names] at h1
   obtain ⟨f0,h0,h2⟩:=List.mem_map.1 h1
   have:=ok.pages f0 h0
   show f.n<P.pages
   omega,clean_size ok.size,ok.most,by show (cleanN n P.ring).length≤_;unfold cleanN;rw [List.length_map];exact ok.full,ok.few,ok.link,ok.turnd,ok.turns⟩
def seenD (left:Lit→Bool) (f:Pf):Bool:=f.dirty && !left (.int .i64 f.n)
theorem seen_start {left:Lit→Bool} {F:List Pf} (h:∀ f∈F,left (.int .i64 f.n)=true):F.filter (seenD left)=[]:=List.filter_eq_nil_iff.2 fun f hf=>by
 unfold seenD;rw [h f hf];simp
theorem seen_end {left:Lit→Bool} {F:List Pf} (h:∀ k,left k=false):F.filter (seenD left)=F.filter (·.dirty):=by
 congr 1;funext f;unfold seenD;rw [h];simp
theorem seen_other {left:Lit→Bool} {f q:Pf} (h:(q.n:Int)≠(f.n:Int)):seenD (fun z=>left z && !z.sameKey (.int .i64 (f.n:Int))) q=seenD left q:=by
 have hk:(Lit.int .i64 (q.n:Int)).sameKey (.int .i64 (f.n:Int))=false:=sameKey_ne fun e=>h (Lit.int.inj e).2
 unfold seenD;dsimp only;rw [hk];simp
theorem seen_step {left:Lit→Bool} {F1 F2:List Pf} {f:Pf} (h:((F1++f :: F2).map (·.n)).Nodup) (hl:left (.int .i64 f.n)=true) :
 (((F1++f :: F2).filter (seenD (fun z=>left z && !z.sameKey (.int .i64 (f.n:Int))))).map (·.n)).Perm ((((F1++f :: F2).filter (seenD left)).map (·.n))++(if f.dirty then [f.n] else [])):=by
 obtain ⟨h1,h2,_⟩:=names_split h
 have e1:F1.filter (seenD (fun z=>left z && !z.sameKey (.int .i64 (f.n:Int))))=F1.filter (seenD left):=List.filter_congr fun q hq=>seen_other (h1 q hq)
 have e2:F2.filter (seenD (fun z=>left z && !z.sameKey (.int .i64 (f.n:Int))))=F2.filter (seenD left):=List.filter_congr fun q hq=>seen_other (h2 q hq)
 have e3:seenD left f=false:=by unfold seenD;rw [hl];simp
 have e4:seenD (fun z=>left z && !z.sameKey (.int .i64 (f.n:Int))) f=f.dirty:=by
  unfold seenD;dsimp only;rw [WideAt.sameKey_self (a:=.int .i64 (f.n:Int)) trivial];simp
 rw [List.filter_append,List.filter_append,List.filter_cons,List.filter_cons,e1,e2,e3,e4]
 cases hd:f.dirty
 ·simp
 ·simp only [if_true,if_false,Bool.false_eq_true,List.map_append,List.map_cons,List.append_assoc]
  exact List.Perm.append_left _ (List.perm_append_comm (l₁:=[f.n]))
end Go.Proofs.YtjihboddejaelaaGreat
namespace Go.Proofs.YtjihboddejaelaaGreat
open Go.RowKit
def wt (P:Pl):Nat:=P.L.fs.length+(P.ring.filter (·.dirty)).length
def Bk.put (N:Bk) (x:Nat) (s:ByteArray):Bk:=⟨N.q,fun m=>if m=x then s else N.K m⟩
structure PInv (P:Pl) (B N:Bk):Prop where
 ok:P.ok
 log:InvQ P.L B
 pages:P.pages=N.q
 most:8≤P.most
 ring:∀ f∈P.ring,f.pins=0∧f.s=N.K f.n∧(f.dirty=true→f.n∈P.turned)
 lies:∀ n,n<N.q→(∀ f∈P.ring,f.n=n→f.dirty=false)→LiesF P.L.fs n (N.K n)
 same:∀ n,n<N.q→n∉P.turned→n<B.q∧N.K n=B.K n
 le:B.q≤N.q
theorem mem_dropN {F:List Pf} {g:Pf} {x:Nat} (hg:g∈F) (hx:g.n≠x):g∈dropN x F:=List.mem_filter.2 ⟨hg,by simpa using hx⟩
theorem same_frame {F:List Pf} {f g:Pf} (h:(F.map (·.n)).Nodup) (hg:g∈F) (hf:f∈F) (e:g.n=f.n):g=f:=by
 obtain ⟨F1,F2,rfl⟩:=List.append_of_mem hf
 obtain ⟨n1,n2,_⟩:=names_split h
 rcases List.mem_append.1 hg with h1 | h1
 ·exact absurd (by omega) (n1 g h1)
 ·rcases List.mem_cons.1 h1 with h1 | h1
  ·exact h1
  ·exact absurd (by omega) (n2 g h1)
theorem drop_perm {F:List Pf} {f:Pf} (h:(F.map (·.n)).Nodup) (hf:f∈F):(dropN f.n F++[f]).Perm F:=by
 obtain ⟨F1,F2,rfl⟩:=List.append_of_mem hf
 rw [dropN_mid h]
 exact (List.perm_append_singleton f (F1++F2)).trans List.perm_middle.symm
theorem dirty_perm {F G:List Pf} (h:F.Perm G):(F.filter (·.dirty)).length=(G.filter (·.dirty)).length:=(h.filter _).length_eq
theorem dirty_drop {F:List Pf} {f:Pf} (h:(F.map (·.n)).Nodup) (hf:f∈F):(F.filter (·.dirty)).length=((dropN f.n F).filter (·.dirty)).length+(if f.dirty then 1 else 0):=by
 rw [← dirty_perm (drop_perm h hf),List.filter_append,List.length_append]
 cases hd:f.dirty <;> simp [List.filter_cons,hd]
section
variable {P:Pl} {B N:Bk}
theorem PInv.up (h:PInv P B N):∀ f∈P.ring,f.n<N.q∧f.n≤65536:=fun f hf=>by
 have h1:=h.ok.pages f hf
 have h2:=h.ok.few
 have h3:=h.pages
 omega
theorem get_same (x:Int):(P.get x).1.most=P.most∧(P.get x).1.pages=P.pages∧(P.get x).1.free=P.free∧(P.get x).1.turned=P.turned:=by
 obtain ⟨s1,s2,s3,s4,s5⟩:=room_same (P:=P)
 unfold Pl.get
 split
 ·split
  ·exact ⟨rfl,rfl,rfl,rfl⟩
  ·split
   ·unfold Pl.fetch
    split <;> exact ⟨s1,s2,s3,s4⟩
   ·exact ⟨s1,s2,s3,s4⟩
 ·exact ⟨rfl,rfl,rfl,rfl⟩
end
end Go.Proofs.YtjihboddejaelaaGreat
namespace Go.Proofs.YtjihboddejaelaaGreat
open Go.RowKit
theorem meta_len {l:Nat} (hl:l≤65536):(sealS 4 l []).size=1024:=seal_size (K:=4) (by omega) (by omega) (by omega) (by decide)
section
variable {P:Pl} {B N:Bk} {T:Nat→Option ByteArray}
theorem PInv.withFree (h:PInv P B N) {n:Nat} (hn:n≤2147483647):PInv { P with free:=n } B N :=
 ⟨⟨h.ok.log,h.ok.names,h.ok.pages,h.ok.size,h.ok.most,h.ok.full,h.ok.few,hn,h.ok.turnd,h.ok.turns⟩,h.log,h.pages,h.most,h.ring,h.lies,h.same,h.le⟩
end
end Go.Proofs.YtjihboddejaelaaGreat
