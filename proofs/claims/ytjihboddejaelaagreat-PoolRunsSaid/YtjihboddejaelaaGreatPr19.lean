/-
  The reference's anew.
-/
import Derived.Test.YtjihboddejaelaaGreatPr15
set_option linter.unusedVariables false
set_option linter.unusedSimpArgs false
namespace Go.Proofs.YtjihboddejaelaaGreat
open Go.RowKit
open Go.BigFrame
theorem calm_cutE {D:Dk} (h:D.calm):D.cutE 1 0=0:=(show D.cutE 1 0=D.turnE from if_pos (by decide)).trans h.turnE
theorem calm_syncE {D:Dk} (h:D.calm):D.syncE 1=0:=(show D.syncE 1=D.turnE from if_pos (by decide)).trans h.turnE
set_option maxRecDepth 100000 in
set_option maxHeartbeats 12800000 in
theorem ref_anew (b:List (Option Nat)) (rd r:Nat) (c:List (Option Nat)) (L:Lg) (w:World) (h:LQ w b rd r c L) (hfit:Fit L.D 4) (hc:L.D.calm) (hp:L.pages≤4611686018427387904) :
 Calls Tryz.prog 147 #[.pointer (some ⟨r,0,none⟩)] w (QPost w b rd r c { L with D:=beginD L.D L.pages 4,slot:=0,number:=1 } (.int .i64 0)):=by
 have ST:=Lib.hid (ref_slot 1 0 L.pages (by omega) (by omega) hp)
 rw [show ((1:Nat):Int)=1 from rfl,show ((0:Nat):Int)=0 from rfl] at ST
 have f1:Fit (L.D.cutD 1 0) 3:=hfit.cut _ _
 have f2:Fit ((L.D.cutD 1 0).sync 1) 2:=f1.sync _
 have f3:Fit (((L.D.cutD 1 0).sync 1).write 1 0 (bsOf (markL++slotL 1 0 L.pages))) 1:=f2.write _ _ _
 have c1:(L.D.cutD 1 0).calm:=hc.cut _ _
 have c2:((L.D.cutD 1 0).sync 1).calm:=c1.sync _
 have c3:(((L.D.cutD 1 0).sync 1).write 1 0 (bsOf (markL++slotL 1 0 L.pages))).calm:=c2.write _ _ _
 have T0:=Lib.hid (fun b1 w1 (h1:RP w1 b1 rd (beginD L.D L.pages 0))=>refd_Cut rd L.D b1 1 0 w1 h1 hfit.ok (by have:=hfit.count;omega) (by have:=hfit.waits;omega))
 have T1:=Lib.hid (fun b1 w1 (h1:RP w1 b1 rd (beginD L.D L.pages 1))=>refd_Sync rd (L.D.cutD 1 0) b1 1 w1 h1 f1.ok (by have:=f1.count;omega) (by have:=f1.waits;omega))
 have T2:=Lib.hid (fun b1 w1 (h1:RP w1 b1 rd (beginD L.D L.pages 2))=>refd_Write rd ((L.D.cutD 1 0).sync 1) b1 1 0 (bsOf (markL++slotL 1 0 L.pages)) w1 h1 f2.ok (by have:=f2.count;omega) (by have:=f2.waits;omega) (by rw [bsOf_size,List.length_append,slotL_len];decide))
 have T3:=Lib.hid (fun b1 w1 (h1:RP w1 b1 rd (beginD L.D L.pages 3))=>refd_Sync rd (((L.D.cutD 1 0).sync 1).write 1 0 (bsOf (markL++slotL 1 0 L.pages))) b1 1 w1 h1 f3.ok (by have:=f3.count;omega) (by have:=f3.waits;omega))
 rw [calm_cutE hc,show L.D.cutD 1 0=beginD L.D L.pages 1 from rfl] at T0
 rw [calm_syncE c1,show (L.D.cutD 1 0).sync 1=beginD L.D L.pages 2 from rfl] at T1
 rw [show ((L.D.cutD 1 0).sync 1).writeE 1 0 (bsOf (markL++slotL 1 0 L.pages))=0 from (show _=((L.D.cutD 1 0).sync 1).turnE from if_pos (by rw [bsOf_size,List.length_append,slotL_len];decide)).trans c2.turnE,show ((L.D.cutD 1 0).sync 1).write 1 0 (bsOf (markL++slotL 1 0 L.pages))=beginD L.D L.pages 3 from rfl] at T2
 rw [calm_syncE c3,show (((L.D.cutD 1 0).sync 1).write 1 0 (bsOf (markL++slotL 1 0 L.pages))).sync 1=beginD L.D L.pages 4 from rfl] at T3
 rw [← bsOf_append,show bsOf markL=⟨#[114,101,108,115,116,111,114,101,32,108,111,103,32,48,48,49]⟩ from rfl] at T2
 obtain ⟨S,hS⟩:∃ S,bsOf (slotL 1 0 L.pages)=S:=⟨_,rfl⟩
 have hz:S.size=24:=by rw [← hS,bsOf_size,slotL_len]
 rw [hS] at ST T2
 obtain ⟨x0,x2,x3,x4,x5,xz,xf⟩:=h.cells
 obtain ⟨h1,t1⟩:=h.set 4 (.int .i64 0) { L with slot:=0 } rfl rfl (fun v=>rfl)
 obtain ⟨h2,t2⟩:=h1.set 5 (.int .i64 1) { L with slot:=0,number:=1 } rfl rfl (fun v=>rfl)
 have H2:=Lib.hid h2
 have T12:=Lib.hid (t1.trans t2)
 obtain ⟨D0,hD0⟩:∃ D,beginD L.D L.pages=D:=⟨_,rfl⟩
 have e0:L.D=D0 0:=by rw [← hD0];rfl
 rw [e0] at H2
 rw [hD0] at T0 T1 T2 T3 ⊢
 clear hS h1 h2 t1 t2 f1 f2 f3 c1 c2 c3 h hfit hc hD0 e0 hp
 go_enter Tryz.func147,Tryz.ntmps147
 go_wp2_with fail
 go_loopw [3] (fun v3 wr=>∃ (k:Nat) (b':List (Option Nat)),k≤4∧v3 = .int .i64 k∧LQ wr b' rd r c { L with D:=D0 k,slot:=0,number:=1 }∧Turn (b++c) (b'++c) w wr) (fun v3 _=>4-(intOf v3).toNat)
 case atStart=>exact ⟨0,b,by omega,rfl,H2.out,T12.out⟩
 case round =>
  obtain ⟨k,b',hk,rfl,hl,ht⟩:=hrel
  have HL:=Lib.hid hl
  have HT:=Lib.hid ht
  clear hl ht H2 T12 x0 x2 x3 x4 x5 xz xf
  obtain ⟨x0,x2,x3,x4,x5,xz,xf⟩:=HL.out.cells
  have HK:=Lib.hid hk
  obtain hk4 | hk4 | hk4 | hk4 | hk4:k=0∨k=1∨k=2∨k=3∨k=4:=by omega
  ·subst hk4
   rw [show ((0:Nat):Int)=0 from rfl]
   go_wp2_with (go_at_call 199;(with_reducible refine (T0.out _ _ HL.out.disk).mono ?_);rintro e w3 ⟨rfl,b3,hd3,ht3⟩;obtain ⟨hl3,hu3⟩:=HL.out.onDisk hd3 ht3;have HL3:=Lib.hid hl3;have HT3:=Lib.hid (HT.out.trans hu3);clear hd3 ht3 hl3 hu3)
   go_roundw
   case rel=>exact ⟨0+1,b3,by omega,by simp,HL3.out,HT3.out⟩
   case measure=>simp [intOf]
  ·subst hk4
   rw [show ((1:Nat):Int)=1 from rfl]
   go_wp2_with (go_at_call 152;(with_reducible refine (T1.out _ _ HL.out.disk).mono ?_);rintro e w3 ⟨rfl,b3,hd3,ht3⟩;obtain ⟨hl3,hu3⟩:=HL.out.onDisk hd3 ht3;have HL3:=Lib.hid hl3;have HT3:=Lib.hid (HT.out.trans hu3);clear hd3 ht3 hl3 hu3)
   go_roundw
   case rel=>exact ⟨1+1,b3,by omega,by simp,HL3.out,HT3.out⟩
   case measure=>simp [intOf]
  ·subst hk4
   rw [show ((2:Nat):Int)=2 from rfl]
   generalize hMK:(⟨#[114,101,108,115,116,111,114,101,32,108,111,103,32,48,48,49]⟩:ByteArray)=MK at *
   have mz:MK.size=16:=by rw [← hMK];rfl
   clear hMK
   have LD:=Lib.hid (HL.out.below (Below.refl _ _).drew)
   have HB:=Lib.hid ((Below.refl wr.heap.size wr).drew)
   go_wp2_with fail
   go_region_with (first | (go_at_call 201;(with_reducible refine (ST.out _).mono ?_);rintro e w1 ⟨rfl,hb1⟩;have H1:=Lib.hid (LD.out.below hb1);have HB1:=Lib.hid (bel_step HB.out hb1 HB.out.size);have y0:=H1.out.cells.1) | (go_at_call 200;(with_reducible refine (T2.out _ _ H1.out.disk).mono ?_);rintro e w3 ⟨rfl,b3,hd3,ht3⟩;obtain ⟨hl3,hu3⟩:=H1.out.onDisk hd3 ht3;have HL3:=Lib.hid hl3;have HT3:=Lib.hid ((HT.out.trans (Turn.below _ HB1.out)).trans hu3);clear hd3 ht3 hl3 hu3 hb1))
   all_goals
    go_wp2_with fail
    go_roundw
    case rel=>exact ⟨3,b3,by omega,by simp,HL3.out,HT3.out⟩
    case measure=>simp [intOf]
  ·subst hk4
   rw [show ((3:Nat):Int)=3 from rfl]
   go_wp2_with (go_at_call 152;(with_reducible refine (T3.out _ _ HL.out.disk).mono ?_);rintro e w3 ⟨rfl,b3,hd3,ht3⟩;obtain ⟨hl3,hu3⟩:=HL.out.onDisk hd3 ht3;have HL3:=Lib.hid hl3;have HT3:=Lib.hid (HT.out.trans hu3);clear hd3 ht3 hl3 hu3)
   go_roundw
   case rel=>exact ⟨3+1,b3,by omega,by simp,HL3.out,HT3.out⟩
   case measure=>simp [intOf]
  ·subst hk4
   rw [show ((4:Nat):Int)=4 from rfl]
   go_wp2_with fail
   go_ret
   exact ⟨rfl,b',c,HL.out,HT.out⟩
end Go.Proofs.YtjihboddejaelaaGreat
