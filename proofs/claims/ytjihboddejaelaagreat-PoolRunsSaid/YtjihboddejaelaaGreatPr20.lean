/-
  The reference's Commit; sheet of the laws; both logs side by side.
-/
import Derived.Test.YtjihboddejaelaaGreatPr15
import Derived.Test.YtjihboddejaelaaGreatPr1
import Derived.Test.YtjihboddejaelaaGreatPr11
import Derived.Test.YtjihboddejaelaaGreatPr14
import Derived.Test.YtjihboddejaelaaGreatLogXq
import Derived.Test.YtjihboddejaelaaGreatLogYq
import Derived.Test.YtjihboddejaelaaGreatPr4
import Derived.Test.YtjihboddejaelaaGreatPr12
set_option linter.unusedVariables false
set_option linter.unusedSimpArgs false
namespace Go.Proofs.YtjihboddejaelaaGreat
open Go.RowKit
open Go.BigFrame
open Go.Maps
set_option maxRecDepth 100000 in
set_option maxHeartbeats 6400000 in
theorem ref_Commit (b:List (Option Nat)) (rd r:Nat) (c:List (Option Nat)) (L:Lg) (n:Int) (t:ByteArray) (p:Int) (w:World) (h:LQ w b rd r c L) (hfit:Fit L.D 4) (hs:L.slot<2) (hnum:L.number<4) (hlen:L.fs.length≤100000) (htz:t.size≤9223372036854775807) :
 Calls Tryz.prog 67 #[.pointer (some ⟨r,0,none⟩),.int .i64 n,.string t,.int .i64 p] w (QPost w b rd r c (L.commit n t p) (.int .i64 (L.commitE n t p))):=by
 have HL:=Lib.hid h
 have IN:=Lib.hid (fun w1=>ref_inB p 1 65536 w1)
 have AP:=Lib.hid (ref_Append b rd r c L n t w h (hfit.less (by omega)) hlen htz)
 by_cases hp:1≤p∧p≤65536
 ·rw [inB_yes hp.1 hp.2] at IN
  obtain ⟨a1,a2,a3,a4,a5⟩:=append_rest L n t
  have f1:Fit (L.append n t).D 3:=append_fit hfit n t
  have TS:=Lib.hid (fun b1 w1 (h1:RP w1 b1 rd (L.append n t).D)=>refd_Sync rd (L.append n t).D b1 1 w1 h1 f1.ok (by have:=f1.count;omega) (by have:=f1.waits;omega))
  rw [show (L.append n t).D.syncE 1=(L.append n t).D.turnE from syncE_fits (f:=1) (by omega)] at TS
  have TT:=Lib.hid (fun b1 c1 w1 (h1:LQ w1 b1 rd r c1 ({ L.append n t with D:=(L.append n t).D.sync 1 }:Lg))=>ref_tell b1 rd r c1 ({ L.append n t with D:=(L.append n t).D.sync 1 }:Lg) (L.append n t).fs.length p.toNat w1 h1 (show Fit ((L.append n t).D.sync 1) 2 from f1.sync 1) (show (L.append n t).slot<2 by omega) (show (L.append n t).number<4 by omega) (by omega) (by omega))
  rw [Int.toNat_of_nonneg (by omega:0≤p)] at TT
  have C0:=Lib.hid (show ¬ (L.appendE n t=0)→L.commit n t p=L.append n t∧L.commitE n t p=L.appendE n t from fun h0=>⟨(if_pos hp).trans (if_neg h0),(if_pos hp).trans (if_neg h0)⟩)
  have C1:=Lib.hid (show L.appendE n t=0→(L.append n t).D.stops→L.commit n t p={ L.append n t with D:=(L.append n t).D.sync 1 }∧L.commitE n t p=2∧(L.append n t).D.turnE=2 from fun h0 h1=>⟨(if_pos hp).trans ((if_pos h0).trans (if_pos h1)),(if_pos hp).trans ((if_pos h0).trans (if_pos h1)),if_pos h1⟩)
  have C2:=Lib.hid (show L.appendE n t=0→¬ (L.append n t).D.stops→L.commit n t p=({ L.append n t with D:=(L.append n t).D.sync 1 }:Lg).tell (L.append n t).fs.length p.toNat∧L.commitE n t p=({ L.append n t with D:=(L.append n t).D.sync 1 }:Lg).tellE (L.append n t).fs.length p.toNat∧(L.append n t).D.turnE=0 from fun h0 h1=>⟨(if_pos hp).trans ((if_pos h0).trans (if_neg h1)),(if_pos hp).trans ((if_pos h0).trans (if_neg h1)),if_neg h1⟩)
  obtain ⟨M,hM⟩:∃ M,L.append n t=M:=⟨_,rfl⟩
  obtain ⟨E,hE⟩:∃ E,L.appendE n t=E:=⟨_,rfl⟩
  rw [hM] at AP TS TT C0 C1 C2
  rw [hE] at AP C0 C1 C2
  clear h hfit hp hM hE a1 a2 a3 a4 a5 f1
  by_cases hE0:E=0
  ·subst hE0
   by_cases hst:M.D.stops
   ·have CC:=Lib.hid (C1.out rfl hst)
    rw [CC.out.1,CC.out.2.1]
    rw [CC.out.2.2] at TS
    clear C0 C1 C2 hst TT
    go_enter Tryz.func67,Tryz.ntmps67
    go_wp2_with (first | (go_at_call 63;refine (IN.out _).mono ?_;rintro e w1 ⟨rfl,rfl⟩) | (go_at_call 151;(with_reducible refine AP.out.mono ?_);rintro e w2 ⟨rfl,b2,c2,hl2,ht2⟩;have HL2:=Lib.hid hl2;have HT2:=Lib.hid ht2;obtain ⟨y0,_,_,_,_,yz,_⟩:=hl2.cells;clear hl2 ht2) | (go_at_call 152;(with_reducible refine (TS.out _ _ HL2.out.disk).mono ?_);rintro e w3 ⟨rfl,b3,hd3,ht3⟩;obtain ⟨hl3,hu3⟩:=HL2.out.onDisk hd3 ht3;have HL3:=Lib.hid hl3;have HT3:=Lib.hid (HT2.out.trans hu3);clear hd3 ht3 hl3 hu3))
    go_ret
    exact ⟨rfl,b3,c2,HL3.out,HT3.out⟩
   ·have CC:=Lib.hid (C2.out rfl hst)
    rw [CC.out.1,CC.out.2.1]
    rw [CC.out.2.2] at TS
    clear C0 C1 C2 hst CC
    obtain ⟨F,hF⟩:∃ F,({ M with D:=M.D.sync 1 }:Lg).tellE M.fs.length p.toNat=F:=⟨_,rfl⟩
    rw [hF] at TT ⊢
    clear hF
    go_enter Tryz.func67,Tryz.ntmps67
    go_wp2_with (first | (go_at_call 63;refine (IN.out _).mono ?_;rintro e w1 ⟨rfl,rfl⟩) | (go_at_call 151;(with_reducible refine AP.out.mono ?_);rintro e w2 ⟨rfl,b2,c2,hl2,ht2⟩;have HL2:=Lib.hid hl2;have HT2:=Lib.hid ht2;obtain ⟨y0,_,_,_,_,yz,_⟩:=hl2.cells;clear hl2 ht2) | (go_at_call 152;(with_reducible refine (TS.out _ _ HL2.out.disk).mono ?_);rintro e w3 ⟨rfl,b3,hd3,ht3⟩;obtain ⟨hl3,hu3⟩:=HL2.out.onDisk hd3 ht3;have HL3:=Lib.hid hl3;have HT3:=Lib.hid (HT2.out.trans hu3);obtain ⟨A3,k3,v1,_,_⟩:=hl3.frames;dsimp only at v1;clear hd3 ht3 hl3 hu3) | (go_at_call 153;(with_reducible refine (TT.out _ _ _ HL3.out).mono ?_);rintro e w4 ⟨rfl,b4,c4,hl4,ht4⟩;have HL4:=Lib.hid hl4;have HT4:=Lib.hid (HT3.out.trans ht4);clear hl4 ht4))
    go_ret
    exact ⟨rfl,b4,c4,HL4.out,HT4.out⟩
  ·have CC:=Lib.hid (C0.out hE0)
   rw [CC.out.1,CC.out.2]
   clear C0 C1 C2 TS TT
   go_enter Tryz.func67,Tryz.ntmps67
   go_wp2_with (first | (go_at_call 63;refine (IN.out _).mono ?_;rintro e w1 ⟨rfl,rfl⟩) | (go_at_call 151;(with_reducible refine AP.out.mono ?_);rintro e w2 ⟨rfl,b2,c2,hl2,ht2⟩;have HL2:=Lib.hid hl2;have HT2:=Lib.hid ht2;clear hl2 ht2))
   go_ret
   exact ⟨rfl,b2,c2,HL2.out,HT2.out⟩
 ·rw [inB_no hp] at IN
  have EA:L.commit n t p=L∧L.commitE n t p=1:=⟨if_neg hp,if_neg hp⟩
  rw [EA.1,EA.2]
  clear EA hp AP h hfit
  go_enter Tryz.func67,Tryz.ntmps67
  go_wp2_with (go_at_call 63;refine (IN.out _).mono ?_;rintro e w1 ⟨rfl,rfl⟩)
  go_ret
  exact QPost.refl HL.out
set_option maxRecDepth 100000 in
set_option maxHeartbeats 3200000 in
theorem law_sheet (n:Int) (w:World):Calls Tryz.prog 73 #[.int .i64 n] w fun e w'=>e = .returned (.string (sheetB n))∧Below w.heap.size w w':=by
 have hmk:=make_bytesN 1024 (by omega) w
 rw [madeZeros,← sheetL_zero n,show ((1024:Nat):Int)=1024 from rfl] at hmk
 have H0:=Lib.hid (Has.new w 5 (u8s (sheetL n 0)).toArray)
 have HB:=Lib.hid ((Below.refl w.heap.size w).alloc (Nat.le_refl _) (.cells (u8s (sheetL n 0)).toArray 5))
 go_enter Tryz.func73,Tryz.ntmps73
 go_wp2_with fail
 go_loopw [8] (fun v8 wr=>∃ k:Nat,k≤1024∧v8 = .int .i64 k∧Has wr w.heap.size 5 (u8s (sheetL n k)).toArray∧Below w.heap.size w wr) (fun v8 _=>1024-(intOf v8).toNat)
 case atStart=>exact ⟨0,by omega,rfl,H0.out,HB.out⟩
 case round =>
  obtain ⟨k,hk,rfl,hh,hb⟩:=hrel
  have HH:=Lib.hid hh
  have HBB:=Lib.hid hb
  clear hh hb H0 HB hmk
  have gz:=HH.out.lt
  by_cases hk2:k<1024
  ·have c0:wr.cell? ⟨w.heap.size,k,none⟩=some (.int .u8 (((sheetL n k)[k]?.getD 0).toNat:Nat)):=by
    have:=HH.out.cell k
    rw [this,sheetL_get n k k hk2]
    simp [u8s,u8v,sheetL_get n k k hk2]
   have cf:=HH.out.frozen
   have HS:=Lib.hid (HH.out.set k (.int .u8 (sheetAt n k).toNat))
   rw [u8s_setS,← sheetL_succ n k hk2] at HS
   have SV:=Lib.hid (sheet_val n k)
   go_wp2_with fail
   rw [SV.out]
   go_roundw
   case rel=>exact ⟨k+1,by omega,by simp,HS.out,HBB.out.setCell (Nat.le_refl _) _⟩
   case measure=>simp [intOf];omega
  ·have hk3:k=1024:=by omega
   subst hk3
   have hcv:=conv_BS (c:=1024) (BS.of_has HH.out)
   rw [sheetL_len] at hcv
   have SB:=Lib.hid (show bsOf (sheetL n 1024)=sheetB n from rfl)
   rw [SB.out] at hcv
   rw [show ((1024:Nat):Int)=1024 from rfl]
   go_wp2_with fail
   go_ret
   exact ⟨rfl,HBB.out⟩
structure Tri (w0 w:World) (b:List (Option Nat)) (gd g m1 m2:Nat) (c:List (Option Nat)) (rd r:Nat) (d:List (Option Nat)) (ab:Nat) (a:ActV) (L M:Lg):Prop where
 p:LR w b gd g m1 m2 L.rw
 q:LQ w c rd r d M
 disj:Disj (b++lb g m1 m2) (c++d)
 low1:∀ k,some k∈b++lb g m1 m2→w0.heap.size≤k
 low2:∀ k,some k∈c++d→w0.heap.size≤k
 bel:Below w0.heap.size w0 w
 act:Has w ab 61 a.arr
 off1:some ab∉b++lb g m1 m2
 off2:some ab∉c++d
section
variable {w0 w w':World} {b b' c c' d d':List (Option Nat)} {gd g g' m1 m2 m1' m2' rd r r' ab:Nat} {a:ActV} {L M L' M':Lg}
theorem Tri.step (h:Tri w0 w b gd g m1 m2 c rd r d ab a L M) (hb:Below w.heap.size w w'):Tri w0 w' b gd g m1 m2 c rd r d ab a L M :=
 ⟨h.p.below hb,h.q.below hb,h.disj,h.low1,h.low2,bel_step h.bel hb h.bel.size,h.act.belowS hb,h.off1,h.off2⟩
theorem Tri.lq (h:Tri w0 w b gd g m1 m2 c rd r d ab a L M) (hq:LQ w' c' rd r' d' M') (ht:Turn (c++d) (c'++d') w w'):Tri w0 w' b gd g m1 m2 c' rd r' d' ab a L M' :=
 ⟨h.p.far ht h.disj.symm,hq,(disj_turn h.disj.symm ht (fun k hk=>h.p.lt hk)).symm,h.low1,ht.low h.low2 h.bel.size,ht.bel h.bel h.low2 h.bel.size,h.act.turn ht h.off2,h.off1,ht.not h.act.lt h.off2⟩
theorem Tri.two (h:Tri w0 w b gd g m1 m2 c rd r d ab a L M):Two w0 w gd rd b c L.D M.D :=
 ⟨h.p.disk,h.q.disk,fun k hk h2=>h.disj k (List.mem_append_left _ hk) (List.mem_append_left _ h2),fun k hk=>h.low1 k (List.mem_append_left _ hk),fun k hk=>h.low2 k (List.mem_append_left _ hk),h.bel⟩
end
def QPostT (w0:World) (b:List (Option Nat)) (gd g m1 m2 rd r ab:Nat) (a:ActV) (L M':Lg) (v:Value) (e:Ending) (w':World):Prop :=
 e = .returned v∧∃ c' d',Tri w0 w' b gd g m1 m2 c' rd r d' ab a L M'
section
variable {w0 w:World} {b c d:List (Option Nat)} {gd g m1 m2 rd r ab:Nat} {a:ActV} {L M:Lg}
theorem Tri.ofQ (h:Tri w0 w b gd g m1 m2 c rd r d ab a L M) {M':Lg} {v:Value} {e:Ending} {w':World} (hp:QPost w c rd r d M' v e w'):QPostT w0 b gd g m1 m2 rd r ab a L M' v e w':=by
 obtain ⟨he,c',d',h1,h2⟩:=hp
 exact ⟨he,c',d',h.lq h1 h2⟩
end
end Go.Proofs.YtjihboddejaelaaGreat
