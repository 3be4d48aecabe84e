/-
  Seal of the reference.
-/
import Derived.Test.YtjihboddejaelaaGreatPr1
import Derived.Test.YtjihboddejaelaaGreatPr7
import Derived.Test.YtjihboddejaelaaGreatPr16
import Derived.Test.YtjihboddejaelaaGreatPr13
set_option linter.unusedVariables false
set_option linter.unusedSimpArgs false
namespace Go.Proofs.YtjihboddejaelaaGreat
open Go.RowKit
open Go.BigFrame
attribute [local go_sem] OpGood goodUpon fillA Act.put
set_option maxRecDepth 100000 in
set_option maxHeartbeats 6400000 in
theorem ref_Seal (K L:Int) (A:Option Addr) (n c:Nat) (cs:List ByteArray) (w:World) (h:SS w A n cs) (hn:n≤4194304) (hu:usedN cs≤8388608) :
 Calls Tryz.prog 66 #[.agg #[.int .i64 K,.int .i64 L,.slice A n c]] w fun e w'=>e = .returned (.tuple #[.string (sealS K L cs),.int .i64 (sealE K L cs)])∧Below w.heap.size w w':=by
 have hb0:=Lib.hid (show Below w.heap.size w (w.alloc (.cells #[.int .i64 K,.int .i64 L,.slice A n c] 114)) from (Below.refl _ _).alloc (Nat.le_refl _) _)
 have I1:=Lib.hid (fun w1=>ref_in K 1 5 w1)
 have I2:=Lib.hid (fun w1=>ref_in L 0 2147483647 w1)
 by_cases hk:K<1∨5<K∨L<0∨2147483647<L
 ·have ANS:Hid (Ending.returned (.tuple #[.string ⟨#[]⟩,.int .i64 1]) = .returned (.tuple #[.string (sealS K L cs),.int .i64 (sealE K L cs)])):=by
   show _=_
   rw [sealS,sealE,if_pos (.inl hk),if_pos hk]
  have hk2:K<1∨(1≤K∧5<K)∨(1≤K∧K≤5∧L<0)∨(1≤K∧K≤5∧0≤L∧2147483647<L):=by omega
  clear hk h
  rcases hk2 with k1 | ⟨k1,k2⟩ | ⟨k1,k2,k3⟩ | ⟨k1,k2,k3,k4⟩
  ·have d1:decide (1≤K)=false:=by simp;omega
   go_enter Tryz.func66,Tryz.ntmps66
   go_wp2_with (first | (go_at_call 63;(with_reducible refine (I1.out _).mono ?_);rintro e w1 ⟨rfl,rfl⟩) | (go_at_call 63;(with_reducible refine (I2.out _).mono ?_);rintro e w1 ⟨rfl,rfl⟩))
   go_ret2
   exact ⟨ANS.out,hb0.out⟩
  ·have d1:decide (K≤5)=false:=by simp;omega
   go_enter Tryz.func66,Tryz.ntmps66
   go_wp2_with (first | (go_at_call 63;(with_reducible refine (I1.out _).mono ?_);rintro e w1 ⟨rfl,rfl⟩) | (go_at_call 63;(with_reducible refine (I2.out _).mono ?_);rintro e w1 ⟨rfl,rfl⟩))
   go_ret2
   exact ⟨ANS.out,hb0.out⟩
  ·have d1:decide (0≤L)=false:=by simp;omega
   go_enter Tryz.func66,Tryz.ntmps66
   go_wp2_with (first | (go_at_call 63;(with_reducible refine (I1.out _).mono ?_);rintro e w1 ⟨rfl,rfl⟩) | (go_at_call 63;(with_reducible refine (I2.out _).mono ?_);rintro e w1 ⟨rfl,rfl⟩))
   go_ret2
   exact ⟨ANS.out,hb0.out⟩
  ·have d1:decide (L≤2147483647)=false:=by simp;omega
   go_enter Tryz.func66,Tryz.ntmps66
   go_wp2_with (first | (go_at_call 63;(with_reducible refine (I1.out _).mono ?_);rintro e w1 ⟨rfl,rfl⟩) | (go_at_call 63;(with_reducible refine (I2.out _).mono ?_);rintro e w1 ⟨rfl,rfl⟩))
   go_ret2
   exact ⟨ANS.out,hb0.out⟩
 ·have k1:1≤K:=by omega
  have k2:K≤5:=by omega
  have k3:0≤L:=by omega
  have k4:L≤2147483647:=by omega
  have HH:=Lib.hid h
  clear h hk
  have HX0:=Lib.hid (Has.new w 114 #[.int .i64 K,.int .i64 L,.slice A n c])
  go_enter Tryz.func66,Tryz.ntmps66
  go_wp2_with (first | (go_at_call 63;(with_reducible refine (I1.out _).mono ?_);rintro e w1 ⟨rfl,rfl⟩) | (go_at_call 63;(with_reducible refine (I2.out _).mono ?_);rintro e w1 ⟨rfl,rfl⟩))
  generalize (w.alloc (.cells #[.int .i64 K,.int .i64 L,.slice A n c] 114))=W at *
  go_loop [4,25] (fun v4 v25=>∃ i:Nat,i≤n∧v25 = .int .i64 i∧v4 = .int .i64 (1012-(usedN (cs.take i):Nat))) (fun _ v25=>n-(intOf v25).toNat)
  case atStart=>exact ⟨0,Nat.zero_le _,rfl,rfl⟩
  case round =>
   obtain ⟨i,hi,rfl,rfl⟩:=hrel
   by_cases h1:i<n
   ·obtain ⟨b,off,rfl,hb,hc⟩:=HH.out.2 (by omega)
    have hl:i<cs.length:=by rw [HH.out.1];exact h1
    have c0:=(hb0.out.cell (p:=⟨b,off+i,none⟩) hb).trans (hc i cs[i] (by simp [hl]))
    have z0:b<W.heap.size:=by have:=hb0.out.size;omega
    have E:=Lib.hid (usedN_take cs hl)
    have x1:=usedN_take_le cs (i+1)
    rw [E.out] at x1
    obtain ⟨x,hx⟩:∃ x,usedN (cs.take i)=x:=⟨_,rfl⟩
    rw [hx] at x1
    have HXX:=Lib.hid hx
    rw [hx]
    clear hx hc
    have x2:x≤8388608:=by omega
    have x3:cs[i].size≤8388608:=by omega
    go_wp2_with fail
    go_round
    case rel=>exact ⟨i+1,by omega,by simp,by rw [E.out,HXX.out];congr 1;omega⟩
    case measure=>simp [intOf];omega
   ·obtain rfl:i=n:=by omega
    have E:usedN (cs.take i)=usedN cs:=by rw [← HH.out.1,List.take_length]
    rw [E]
    clear E
    by_cases hr:1012<usedN cs
    ·have ANS:Hid (Ending.returned (.tuple #[.string ⟨#[]⟩,.int .i64 5]) = .returned (.tuple #[.string (sealS K L cs),.int .i64 (sealE K L cs)])):=by
      have q1:¬ (K<1∨5<K∨L<0∨2147483647<L):=by omega
      show _=_
      rw [sealS,sealE,if_pos (.inr hr),if_neg q1,if_pos hr]
     go_wp2_with fail
     go_ret2
     exact ⟨ANS.out,hb0.out⟩
    ·obtain ⟨F,hF⟩:∃ F:Nat,F=1012-usedN cs:=⟨_,rfl⟩
     have eF:(1012:Int)-(usedN cs:Nat)=(F:Int):=by omega
     rw [eF]
     have HF:=Lib.hid hF
     clear eF hF
     have kb:(0:Int)≤K:=by omega
     obtain ⟨kk,hkk⟩:∃ s,bsOf [UInt8.ofNat K.toNat,0]=s:=⟨_,rfl⟩
     obtain ⟨nn,hnn⟩:∃ s,bsOf (beK i 2)=s:=⟨_,rfl⟩
     obtain ⟨ll,hll⟩:∃ s,bsOf (beK L.toNat 4)=s:=⟨_,rfl⟩
     have z1:kk.size+nn.size≤9223372036854775807:=by rw [← hkk,← hnn,bsOf_size,bsOf_size,beK_len];simp
     have z2:(kk++nn).size+ll.size≤9223372036854775807:=by rw [← hkk,← hnn,← hll,bsOf_append,bsOf_size,bsOf_size,beK_len,List.length_append,beK_len];simp
     have z1':¬ (9223372036854775807<kk.size+nn.size):=by omega
     have z2':¬ (9223372036854775807<kk.size+nn.size+ll.size):=by rw [ByteArray.size_append] at z2;omega
     have HEAD:Hid (kk++nn++ll=bsOf (headL K.toNat L.toNat cs.length)):=by rw [← hkk,← hnn,← hll,bsOf_append,bsOf_append,HH.out.1];exact rfl
     have B2:Hid (∀ w1,Calls Tryz.prog 149 #[.int .u64 i,.int .i64 2] w1 fun e w'=>e = .returned (.string nn)∧Below w1.heap.size w1 w'):=fun w1=>by
      have:=ref_bytes i 2 (by omega) (by omega) w1
      rw [hnn] at this;exact this
     have B4:Hid (∀ w1,Calls Tryz.prog 149 #[.int .u64 L,.int .i64 4] w1 fun e w'=>e = .returned (.string ll)∧Below w1.heap.size w1 w'):=fun w1=>by
      have:=ref_bytes L.toNat 4 (by omega) (by omega) w1
      rw [hll,show ((L.toNat:Nat):Int)=L by omega] at this;exact this
     have HKK:=Lib.hid hkk
     clear hkk hnn hll
     have q1:IntKind.u8.wrap K=K:=IntWalk.u8_in _ ⟨by omega,by omega⟩
     have q2:IntKind.u64.wrap (i:Int)=(i:Int):=by rw [IntKind.wrap_u64];omega
     have q3:IntKind.u64.wrap L=L:=by rw [IntKind.wrap_u64];omega
     have eK:((UInt8.ofNat K.toNat).toNat:Int)=K:=by rw [toNat_ofNat8];omega
     go_wp2_with fail
     refine wp_region_inv 17 (Cls (W)) (prP [fun u _=>u = .pointer (some ⟨w.heap.size,0,none⟩),fun u _=>u = .int .i64 K,fun u _=>u = .int .u8 K,BV 2 [UInt8.ofNat K.toNat,0],fun u _=>u = .string kk,fun u _=>u = .pointer (some ⟨w.heap.size,2,none⟩),fun u _=>u = .slice A i c,fun u _=>u = .int .i64 i,fun u _=>u = .int .u64 i,fun u _=>u = .string nn,fun u _=>u = .string (kk++nn),fun u _=>u = .pointer (some ⟨w.heap.size,1,none⟩),fun u _=>u = .int .i64 L,fun u _=>u = .int .u64 L,fun u _=>u = .string ll,fun u _=>u = .string (kk++nn++ll),fun u _=>u = .string (kk++nn++ll)]) (by kernel_rfl) (by kernel_rfl) (by kernel_rfl) (fun _ _ hC hb=>Cls.step hC hb) ?hst (Cls.start _) ?hops ?hend
     case hst=>exact prP_stable _ ⟨stab_eq _,stab_eq _,stab_eq _,BV_stable _ _,stab_eq _,stab_eq _,stab_eq _,stab_eq _,stab_eq _,stab_eq _,stab_eq _,stab_eq _,stab_eq _,stab_eq _,stab_eq _,stab_eq _,stab_eq _,trivial⟩
     case hops =>
      obtain ⟨a0,a1,a2⟩:=HX0.out.cells3
      have z3:=HX0.out.lt
      intro us wx hus hC
      obtain ⟨u0,u1,u2,u3,u4,u5,u6,u7,u8,u9,u10,u11,u12,u13,u14,u15,u16,rfl⟩:∃ u0 u1 u2 u3 u4 u5 u6 u7 u8 u9 u10 u11 u12 u13 u14 u15 u16,us=[u0,u1,u2,u3,u4,u5,u6,u7,u8,u9,u10,u11,u12,u13,u14,u15,u16]:=by
       match us,hus with
       | [u0,u1,u2,u3,u4,u5,u6,u7,u8,u9,u10,u11,u12,u13,u14,u15,u16],_=>exact ⟨u0,u1,u2,u3,u4,u5,u6,u7,u8,u9,u10,u11,u12,u13,u14,u15,u16,rfl⟩
      clear hus
      simp only [fillA,Act.put,List.take_succ_cons,List.take_zero,List.setIfInBounds_toArray,List.set_cons_zero,List.set_cons_succ]
      refine ⟨fun h=>?_,fun h=>?_,fun h=>?_,fun h=>?_,fun h=>?_,fun h=>?_,fun h=>?_,fun h=>?_,fun h=>?_,fun h=>?_,fun h=>?_,fun h=>?_,fun h=>?_,fun h=>?_,fun h=>?_,fun h=>?_,fun h=>?_,trivial⟩
      ·(clear h;refine good_plain rfl ?_;go_simp;exact ⟨Below.refl _ _,rfl⟩)
      ·obtain rfl:=h 0 rfl
       (clear h;refine good_plain rfl ?_;obtain ⟨hc,hf⟩:=hC.facts;go_simp;exact ⟨Below.refl _ _,rfl⟩)
      ·obtain rfl:=h 1 rfl
       (clear h;refine good_plain rfl ?_;go_simp;exact ⟨Below.refl _ _,rfl⟩)
      ·obtain rfl:=h 2 rfl
       clear h;refine good_plain rfl ?_;go_simp
       refine ⟨(Below.refl _ _).alloc (Nat.le_refl _) _,_,_,rfl, ?_⟩
       have:=BS.of_has (Has.new wx 5 (u8s [UInt8.ofNat K.toNat,0]).toArray)
       rw [show u8s [UInt8.ofNat K.toNat,0]=[.int .u8 K,.int .u8 0] by simp only [u8s,u8v,List.map_cons,List.map_nil,eK];rfl] at this
       exact this
      ·obtain ⟨A3,c3,rfl,hB⟩:=h 3 rfl
       have hcv:=conv_BS (c:=c3) hB
       rw [HKK.out] at hcv
       clear h;refine good_plain rfl ?_;go_simp;exact ⟨Below.refl _ _,rfl⟩
      ·(clear h;refine good_plain rfl ?_;go_simp;exact ⟨Below.refl _ _,rfl⟩)
      ·obtain rfl:=h 5 rfl
       (clear h;refine good_plain rfl ?_;obtain ⟨hc,hf⟩:=hC.facts;go_simp;exact ⟨Below.refl _ _,rfl⟩)
      ·obtain rfl:=h 6 rfl
       (clear h;refine good_plain rfl ?_;go_simp;exact ⟨Below.refl _ _,rfl⟩)
      ·obtain rfl:=h 7 rfl
       (clear h;refine good_plain rfl ?_;go_simp;exact ⟨Below.refl _ _,rfl⟩)
      ·obtain rfl:=h 8 rfl
       (clear h;refine good_plain rfl ?_;go_simp;refine (B2.out _).mono ?_;rintro e w1 ⟨rfl,hb⟩;exact ⟨_,rfl,hb,rfl⟩)
      ·obtain rfl:=h 4 rfl
       obtain rfl:=h 9 rfl
       (clear h;refine good_plain rfl ?_;go_simp;exact ⟨Below.refl _ _,rfl⟩)
      ·(clear h;refine good_plain rfl ?_;go_simp;exact ⟨Below.refl _ _,rfl⟩)
      ·obtain rfl:=h 11 rfl
       (clear h;refine good_plain rfl ?_;obtain ⟨hc,hf⟩:=hC.facts;go_simp;exact ⟨Below.refl _ _,rfl⟩)
      ·obtain rfl:=h 12 rfl
       (clear h;refine good_plain rfl ?_;go_simp;exact ⟨Below.refl _ _,rfl⟩)
      ·obtain rfl:=h 13 rfl
       (clear h;refine good_plain rfl ?_;go_simp;refine (B4.out _).mono ?_;rintro e w1 ⟨rfl,hb⟩;exact ⟨_,rfl,hb,rfl⟩)
      ·obtain rfl:=h 10 rfl
       obtain rfl:=h 14 rfl
       (clear h;refine good_plain rfl ?_;go_simp;exact ⟨Below.refl _ _,rfl⟩)
      ·obtain rfl:=h 15 rfl
       (clear h;refine good_plain rfl ?_;go_simp;exact ⟨Below.refl _ _,rfl⟩)
     case hend =>
      intro us wx hus hC
      obtain ⟨u0,u1,u2,u3,u4,u5,u6,u7,u8,u9,u10,u11,u12,u13,u14,u15,u16,rfl⟩:∃ u0 u1 u2 u3 u4 u5 u6 u7 u8 u9 u10 u11 u12 u13 u14 u15 u16,us=[u0,u1,u2,u3,u4,u5,u6,u7,u8,u9,u10,u11,u12,u13,u14,u15,u16]:=by
       match us,hus with
       | [u0,u1,u2,u3,u4,u5,u6,u7,u8,u9,u10,u11,u12,u13,u14,u15,u16],_=>exact ⟨u0,u1,u2,u3,u4,u5,u6,u7,u8,u9,u10,u11,u12,u13,u14,u15,u16,rfl⟩
      clear hus
      intro hall
      obtain ⟨h0,h1,h2,h3,h4,h5,h6,h7,h8,h9,h10,h11,h12,h13,h14,h15,h16,_⟩:=hall
      obtain rfl:=h16
      have hHX:=HX0.out.belowS hC.bel
      have hbw:=Lib.hid (bel_step hb0.out hC.bel hb0.out.size)
      have HHX:=Lib.hid hHX
      obtain ⟨a0,a1,a2⟩:=hHX.cells3
      have z3:=hHX.lt
      clear h0 h1 h2 h3 h4 h5 h6 h7 h8 h9 h10 h11 h12 h13 h14 h15 hC hHX B2 B4
      rw [HEAD.out]
      clear HEAD HKK z1 z2 z1' z2' q1 q2 q3 eK
      have hr2:usedN cs≤1012:=by omega
      have HR:=Lib.hid hr2
      go_wp2_with fail
      go_loopw [7,8,56] (fun v7 v8 v56 wr=>∃ (j:Nat) (s7 s8:ByteArray),j≤i∧v56 = .int .i64 j∧v7 = .string s7∧v8 = .string s8∧s7=bsOf (headL K.toNat L.toNat cs.length++offsL cs j)∧s8=bsOf (bodyL (cs.take j))∧Below w.heap.size w wr) (fun _ _ v56 _=>i-(intOf v56).toNat)
      case atStart=>exact ⟨0,_,_,Nat.zero_le _,rfl,rfl,rfl,by simp [offsL],rfl,hbw.out⟩
      case round =>
       clear a0 a1 a2 z3
       obtain ⟨j,s7,s8,hj,rfl,rfl,rfl,h7,h8,hbel⟩:=hrel
       have H7:=Lib.hid h7;have H8:=Lib.hid h8;have HB:=Lib.hid hbel
       clear h7 h8 hbel
       by_cases h1:j<i
       ·have hl:j<cs.length:=by rw [HH.out.1];exact h1
        obtain ⟨b,off,rfl,hbl,hc⟩:=HH.out.2 (by omega)
        have c0:=hc j cs[j] (by simp [hl])
        obtain ⟨wc,wf⟩:=bcell HB.out
        have c1:wr.cell? ⟨b,off+j,none⟩=some (.string cs[j]):=(wc _ _ hbl).trans c0
        have z1:b<wr.heap.size:=by have:=HB.out.size;omega
        have b1:=body_le HR.out (j+1) (by omega)
        have b0:=body_le HR.out j (by omega)
        have b2:=bodyN_take cs hl
        have l7:s7.size=8+2*j:=by rw [H7.out,bsOf_size,List.length_append,headL_len,offsL_len]
        have l8:s8.size=bodyN (cs.take j):=by rw [H8.out,bsOf_size,bodyL_len]
        obtain ⟨m,hm⟩:∃ m,cs[j].size=m:=⟨_,rfl⟩
        rw [hm] at b2
        obtain ⟨sm,hsm⟩:∃ s,bsOf (beK m 2)=s:=⟨_,rfl⟩
        have lsm:sm.size=2:=by rw [← hsm,bsOf_size,beK_len]
        obtain ⟨E',hE'⟩:∃ E':Nat,E'=1024-bodyN (cs.take (j+1)):=⟨_,rfl⟩
        obtain ⟨se,hse⟩:∃ s,bsOf (beK E' 2)=s:=⟨_,rfl⟩
        have lse:se.size=2:=by rw [← hse,bsOf_size,beK_len]
        have e1:(1024:Int)-((sm.size:Int)+(m:Int)+(s8.size:Int))=(E':Int):=by rw [lsm,l8];omega
        have m1:m≤1012:=by omega
        have m2:E'≤1022:=by omega
        have m3:sm.size+cs[j].size≤9223372036854775807:=by omega
        have m4:(sm++cs[j]).size+s8.size≤9223372036854775807:=by rw [ByteArray.size_append];omega
        have m5:s7.size+se.size≤9223372036854775807:=by omega
        have BM:Hid (∀ w1,Calls Tryz.prog 149 #[.int .u64 m,.int .i64 2] w1 fun e w'=>e = .returned (.string sm)∧Below w1.heap.size w1 w'):=fun w1=>by
         have:=ref_bytes m 2 (by omega) (by omega) w1
         rw [hsm] at this;exact this
        have BE:Hid (∀ w1,Calls Tryz.prog 149 #[.int .u64 E',.int .i64 2] w1 fun e w'=>e = .returned (.string se)∧Below w1.heap.size w1 w'):=fun w1=>by
         have:=ref_bytes E' 2 (by omega) (by omega) w1
         rw [hse] at this;exact this
        have n7:s7++se=bsOf (headL K.toNat L.toNat cs.length++offsL cs (j+1)):=by
         rw [H7.out,← hse,bsOf_append,hE'];simp only [offsL,List.append_assoc]
        have n8:sm++cs[j]++s8=bsOf (bodyL (cs.take (j+1))):=by
         rw [H8.out,← hsm,List.take_succ_eq_append_getElem hl,bodyL_snoc,hm,← bsOf_append,← bsOf_append,bsOf_of]
        have N7:=Lib.hid n7;have N8:=Lib.hid n8
        clear n7 n8
        clear wc wf c0 hc b0 b1 b2 l7 l8 hsm lsm hE' hse lse
        go_wp2_with (first | (go_at_call 149;(with_reducible refine (BM.out _).mono ?_);rintro e w1 ⟨rfl,hb1⟩) | (go_at_call 149;(with_reducible refine (BE.out _).mono ?_);rintro e w2 ⟨rfl,hb2⟩))
        go_roundw
        case rel=>exact ⟨j+1,_,_,by omega,by simp,rfl,rfl,N7.out,N8.out,bel_step (bel_step HB.out hb1 HB.out.size) hb2 (Nat.le_trans HB.out.size hb1.size)⟩
        case measure=>simp [intOf];omega
       ·obtain rfl:j=i:=by omega
        have u1:usedN cs=bodyN cs+2*cs.length:=used_body cs
        have tk:cs.take j=cs:=by rw [← HH.out.1,List.take_length]
        have l7:s7.size=8+2*j:=by rw [H7.out,bsOf_size,List.length_append,headL_len,offsL_len]
        have l8:s8.size=bodyN cs:=by rw [H8.out,bsOf_size,bodyL_len,tk]
        have hF:=HF.out
        have hj2:cs.length=j:=HH.out.1
        have hmk:=make_bytes F (by omega) wr
        obtain ⟨sz,hsz⟩:∃ s,bsOf (List.replicate F 0)=s:=⟨_,rfl⟩
        have lsz:sz.size=F:=by rw [← hsz,bsOf_size,List.length_replicate]
        have hcv:=conv_BS (c:=F) (made_zero F wr)
        rw [hsz] at hcv
        have m1:s7.size+sz.size≤9223372036854775807:=by omega
        have m2:(s7++sz).size+s8.size≤9223372036854775807:=by rw [ByteArray.size_append];omega
        have MID:s7++sz++s8=bsOf (midL K.toNat L.toNat cs cs.length):=by
         rw [H7.out,H8.out,← hsz,bsOf_append,bsOf_append,tk,← sealRest HR.out,hF]
         rw [hj2]
        obtain ⟨t,ht⟩:∃ t,s7++sz++s8=t:=⟨_,rfl⟩
        have lt:t.size=1020:=by rw [← ht,MID,bsOf_size,midL_len HR.out (Nat.le_refl _)]
        rw [ht] at MID
        have SM:Hid (∀ w1,Calls Tryz.prog 150 #[.string t] w1 fun e w'=>e = .returned (.int .u32 (crcN (midL K.toNat L.toNat cs cs.length):Nat))∧w1=w'):=fun w1=>by
         have:=ref_Sum t w1 (by omega)
         rw [MID,bsOf_data] at this;rw [MID];exact this
        obtain ⟨x,hx⟩:∃ x,crcN (midL K.toNat L.toNat cs cs.length)=x:=⟨_,rfl⟩
        have x1:=crcN_lt (midL K.toNat L.toNat cs cs.length)
        rw [hx] at x1 SM
        obtain ⟨sx,hsx⟩:∃ s,bsOf (beK x 4)=s:=⟨_,rfl⟩
        have lsx:sx.size=4:=by rw [← hsx,bsOf_size,beK_len]
        have BX:Hid (∀ w1,Calls Tryz.prog 149 #[.int .u64 x,.int .i64 4] w1 fun e w'=>e = .returned (.string sx)∧Below w1.heap.size w1 w'):=fun w1=>by
         have:=ref_bytes x 4 (by omega) (by omega) w1
         rw [hsx] at this;exact this
        have m3:sx.size+t.size≤9223372036854775807:=by omega
        have ANS:Hid (Ending.returned (.tuple #[.string (sx++t),.int .i64 0]) = .returned (.tuple #[.string (sealS K L cs),.int .i64 (sealE K L cs)])):=by
         have q1:¬ (K<1∨5<K∨L<0∨2147483647<L):=by omega
         show _=_
         rw [sealS,sealE,if_neg (by omega),if_neg q1,if_neg (by omega),← hsx,MID,bsOf_append,← hx]
         exact rfl
        clear u1 tk l7 l8 hF hj2 hsz lsz lt MID hx hsx lsx
        go_wp2_with (first | (go_at_call 150;(refine (SM.out _).mono ?_);rintro e w1 ⟨rfl,rfl⟩) | (go_at_call 149;(refine (BX.out _).mono ?_);rintro e w2 ⟨rfl,hb2⟩))
        go_ret2
        exact ⟨ANS.out,bel_step (HB.out.alloc HB.out.size _) hb2 (Nat.le_trans HB.out.size (by simp))⟩
end Go.Proofs.YtjihboddejaelaaGreat
namespace Go.Proofs.YtjihboddejaelaaGreat
open Go.RowKit
open Go.BigFrame
attribute [local go_sem] OpGood goodUpon fillA Act.put
theorem openR_size {s:ByteArray} (h:s.size≠1024):openR s=none:=by unfold openR;rw [if_pos h]
theorem openR_go {s:ByteArray} (h1:s.size=1024):openR s=openN s (min (at16N s.data.toList 6) 506):=by
 unfold openR;rw [if_neg];exact fun h=>h h1
theorem min_at {n N:Nat} (h:min n 506=N) (h1:N<n):N=506:=by omega
theorem wrapN (x:Nat) (h:x<9223372036854775808):IntKind.i64.wrap (x:Int)=(x:Int)∧wrap64 (x:Int)=(x:Int):=⟨IntWalk.i64_in _ ⟨by omega,by omega⟩,by unfold wrap64;omega⟩
theorem openN_stop {s:ByteArray} {N:Nat} {o:Option Pg} (h:o=openN s N) (h1:readGo s N=none):Hid (o=none):=by
 unfold openN at h
 rw [h1] at h
 exact Lib.hid h
theorem drop_take_two (l:List UInt8) (o:Nat) (h:o+2≤l.length):(l.drop o).take 2=[l.getD o 0,l.getD (o+1) 0]:=by
 apply List.ext_getElem?
 intro i
 rw [List.getElem?_take,List.getElem?_drop]
 match i with
 | 0=>simp [List.getD_eq_getElem?_getD,List.getElem?_eq_getElem (show o<l.length by omega)]
 | 1=>simp [List.getD_eq_getElem?_getD,List.getElem?_eq_getElem (show o+1<l.length by omega)]
 | i+2=>rw [if_neg (by omega)];rfl
theorem unK_two (s:ByteArray) (o p:Nat) (hp:p=o+2) (h:p≤s.size):unK (s.extract o p).data.toList=at16N s.data.toList o:=by
 subst hp
 rw [Lib.extract_data,show o+2-o=2 by omega,drop_take_two _ _ (by simpa using h)]
 simp [unK,at16N]
theorem unK_four (s:ByteArray) (o p:Nat) (hp:p=o+4) (h:p≤s.size):unK (s.extract o p).data.toList=at32N s.data.toList o:=by
 subst hp
 rw [Lib.extract_data,show o+4-o=2+2 by omega,List.take_add,List.drop_drop,drop_take_two _ _ (by simp;omega),drop_take_two _ _ (by simp;omega)]
 simp [unK,at16N,at32N]
 omega
theorem ref_two (s:ByteArray) (o p x:Nat) (hp:p=o+2) (h:p≤s.size) (hx:at16N s.data.toList o=x) (w:World):Calls Tryz.prog 148 #[.string (s.extract o p)] w fun e w'=>e = .returned (.int .u64 x)∧w=w':=by
 have:=ref_unbytes (s.extract o p) (by simp;omega) w
 rw [unK_two s o p hp h,hx] at this
 exact this
theorem ref_four (s:ByteArray) (o p x:Nat) (hp:p=o+4) (h:p≤s.size) (hx:at32N s.data.toList o=x) (w:World):Calls Tryz.prog 148 #[.string (s.extract o p)] w fun e w'=>e = .returned (.int .u64 x)∧w=w':=by
 have:=ref_unbytes (s.extract o p) (by simp;omega) w
 rw [unK_four s o p hp h,hx] at this
 exact this
set_option maxRecDepth 100000 in
set_option maxHeartbeats 6400000 in
theorem ref_Open (s:ByteArray) (hs:s.size≤1048576) (w:World):Calls Tryz.prog 69 #[.string s] w (PgOpenPost w (openR s) (.int .i64 4)):=by
 have HR0:=Lib.hid (Has.new w 114 #[.int .i64 0,.int .i64 0,.slice none 0 0])
 have HB0:=Lib.hid (below_mkP w (.cells #[.int .i64 0,.int .i64 0,.slice none 0 0] 114))
 by_cases h1:s.size=1024
 ·have szs:((s.size:Nat):Int)=1024:=by omega
  have H1:=Lib.hid h1
  have s4:4<s.size:=by omega
  have s4':(4:Int)<(s.size:Int):=by omega
  have i4:=getD_byte s 4 s4
  obtain ⟨k,hk⟩:∃ k,(s.data.toList.getD 4 0).toNat=k:=⟨_,rfl⟩
  have bk:=byte_lt (s.data.toList.getD 4 0)
  rw [hk] at bk
  have HK:=Lib.hid hk
  rw [i4] at hk
  have W4:Hid (IntKind.i64.wrap (s[4].toNat:Int)=(k:Int)∧wrap64 (s[4].toNat:Int)=(k:Int)):=by rw [hk];exact Lib.hid (wrapN k (by omega))
  clear i4
  obtain ⟨l,hl⟩:∃ l,at32N s.data.toList 8=l:=⟨_,rfl⟩
  have ll:=at32N_lt s.data.toList 8
  have T8:=Lib.hid (ref_four s 8 12 l rfl (by omega) hl)
  rw [hl] at ll
  have WL:=Lib.hid (wrapN l (by omega))
  obtain ⟨n,hn⟩:∃ n,at16N s.data.toList 6=n:=⟨_,rfl⟩
  have ln:=at16N_lt s.data.toList 6
  have T6:=Lib.hid (ref_two s 6 8 n rfl (by omega) hn)
  rw [hn] at ln
  have WN:=Lib.hid (wrapN n (by omega))
  have HL:=Lib.hid hl
  obtain ⟨N,hN⟩:∃ N,min n 506=N:=⟨_,rfl⟩
  have HGO:Hid (openR s=openN s N):=by
   have:=openR_go H1.out
   rw [hn,hN] at this;exact Lib.hid this
  have N1:N≤n:=hN ▸ Nat.min_le_left _ _
  have N2:N≤506:=hN ▸ Nat.min_le_right _ _
  have N3:Hid (N<n→N=506):=Lib.hid (min_at hN)
  clear hl hn hk hN
  obtain ⟨w4,w4'⟩:=W4.out
  obtain ⟨wl,wl'⟩:=WL.out
  go_enter Tryz.func69,Tryz.ntmps69
  go_wp2_with fail
  refine wp_region_inv 9 (Cls ((w.alloc (.cells #[.int .i64 0,.int .i64 0,.slice none 0 0] 114)))) (prP [fun u _=>u = .string s,fun u _=>u = .int .u8 s[4].toNat,fun u _=>u = .int .i64 k,fun u _=>u = .string s,fun u _=>u = .string (s.extract 8 12),fun u _=>u = .int .u64 l,fun u _=>u = .int .i64 l,fun u _=>u = .agg #[.int .i64 k,.int .i64 l,.slice none 0 0],fun u w1=>∃ g,u = .pointer (some ⟨g,0,none⟩)∧Has w1 g 114 #[.int .i64 0,.int .i64 0,.slice none 0 0]∧w.heap.size+1≤g]) (by kernel_rfl) (by kernel_rfl) (by kernel_rfl) (fun _ _ hC hb=>Cls.step hC hb) ?hst (Cls.start _) ?hops ?hend
  case hst=>exact prP_stable _ ⟨stab_eq _,stab_eq _,stab_eq _,stab_eq _,stab_eq _,stab_eq _,stab_eq _,stab_eq _,fun u w1 w2 hb ⟨g,e,h,hg⟩=>⟨g,e,h.belowS hb,hg⟩,trivial⟩
  case hops =>
   intro us wx hus hC
   obtain ⟨u0,u1,u2,u3,u4,u5,u6,u7,u8,rfl⟩:∃ u0 u1 u2 u3 u4 u5 u6 u7 u8,us=[u0,u1,u2,u3,u4,u5,u6,u7,u8]:=by
    match us,hus with
    | [u0,u1,u2,u3,u4,u5,u6,u7,u8],_=>exact ⟨u0,u1,u2,u3,u4,u5,u6,u7,u8,rfl⟩
   clear hus
   simp only [fillA,Act.put,List.take_succ_cons,List.take_zero,List.setIfInBounds_toArray,List.set_cons_zero,List.set_cons_succ]
   refine ⟨fun h=>?_,fun h=>?_,fun h=>?_,fun h=>?_,fun h=>?_,fun h=>?_,fun h=>?_,fun h=>?_,fun h=>?_,trivial⟩
   ·(clear h;refine good_plain rfl ?_;go_simp;exact ⟨Below.refl _ _,rfl⟩)
   ·obtain rfl:=h 0 rfl
    (clear h;refine good_plain rfl ?_;go_simp;exact ⟨Below.refl _ _,rfl⟩)
   ·obtain rfl:=h 1 rfl
    (clear h;refine good_plain rfl ?_;go_simp;exact ⟨Below.refl _ _,rfl⟩)
   ·(clear h;refine good_plain rfl ?_;go_simp;exact ⟨Below.refl _ _,rfl⟩)
   ·obtain rfl:=h 3 rfl
    (clear h;refine good_plain rfl ?_;go_simp;exact ⟨Below.refl _ _,rfl⟩)
   ·obtain rfl:=h 4 rfl
    (clear h;refine good_plain rfl ?_;go_simp;refine (T8.out _).mono ?_;rintro e w1 ⟨rfl,rfl⟩;exact ⟨_,rfl,Below.refl _ _,rfl⟩)
   ·obtain rfl:=h 5 rfl
    (clear h;refine good_plain rfl ?_;go_simp;exact ⟨Below.refl _ _,rfl⟩)
   ·obtain rfl:=h 2 rfl
    obtain rfl:=h 6 rfl
    (clear h;refine good_plain rfl ?_;go_simp;exact ⟨Below.refl _ _,rfl⟩)
   ·clear w4 w4' wl wl'
    have hle:=hC.bel.size
    clear h;refine good_plain rfl ?_;go_simp;exact ⟨below_mkP _ _,_,rfl,Has.new _ _ _,by simp at hle;omega⟩
  case hend =>
   clear w4 w4' wl wl'
   intro us wx hus hC
   obtain ⟨u0,u1,u2,u3,u4,u5,u6,u7,u8,rfl⟩:∃ u0 u1 u2 u3 u4 u5 u6 u7 u8,us=[u0,u1,u2,u3,u4,u5,u6,u7,u8]:=by
    match us,hus with
    | [u0,u1,u2,u3,u4,u5,u6,u7,u8],_=>exact ⟨u0,u1,u2,u3,u4,u5,u6,u7,u8,rfl⟩
   clear hus
   intro hall
   obtain ⟨h0,h1,h2,h3,h4,h5,h6,h7,h8,_⟩:=hall
   obtain rfl:=h7
   obtain ⟨g,rfl,hG,hg1⟩:=h8
   have HR2:=Lib.hid (HR0.out.belowS hC.bel)
   have HB2:=Lib.hid (bel_step HB0.out hC.bel HB0.out.size)
   have gf:=hG.frozen
   obtain ⟨g0,g1,g3⟩:=hG.cells3
   have gz:=hG.lt
   have hgne:g≠w.heap.size:=by omega
   have HR3:=Lib.hid (HR2.out.far3 (g':=g) (x:=.int .i64 k) (y:=.int .i64 l) (z:=.slice none 0 0) (Ne.symm hgne))
   have HG3:=Lib.hid (hG.set3 (x:=.int .i64 k) (y:=.int .i64 l) (z:=.slice none 0 0))
   have HB3:=Lib.hid (((HB2.out.setCell (p:=⟨g,0,none⟩) (by simp;omega) (.int .i64 k)).setCell (p:=⟨g,1,none⟩) (by simp;omega) (.int .i64 l)).setCell (p:=⟨g,2,none⟩) (by simp;omega) (.slice none 0 0))
   clear h0 h1 h2 h3 h4 h5 h6 hC hG HR0 HB0 T8 HR2 HB2
   go_wp2_with fail
   clear g0 g1 g3 gf gz
   go_loopw [5] (fun v5 wr=>∃ i:Nat,i≤N∧v5 = .int .i64 i∧OL w s g k l i wr) (fun v5 _=>N-(intOf v5).toNat)
   case atStart=>exact ⟨0,Nat.zero_le _,rfl,[],none,0,rfl,rfl,by simp [usedN],World.ownsRow_nil _ _ _ _,HG3.out,HR3.out,HB3.out,hg1⟩
   case round =>
    clear HR3 HG3 HB3
    obtain ⟨i,hi,rfl,cs,A,c,hrd,hlen,hus,hown,hG,hR,hbel,_⟩:=hrel
    have HRD:=Lib.hid hrd;have HLEN:=Lib.hid hlen;have HUS:=Lib.hid hus;have HO:=Lib.hid hown;have HG:=Lib.hid hG;have HR:=Lib.hid hR;have HB:=Lib.hid hbel
    clear hrd hlen hus hown hG hR hbel
    obtain ⟨o1,e1⟩:∃ o1,12+2*i=o1:=⟨_,rfl⟩
    obtain ⟨o2,e2⟩:∃ o2,14+2*i=o2:=⟨_,rfl⟩
    have e1':(12:Int)+2*(i:Int)=(o1:Int):=by omega
    have e2':(14:Int)+2*(i:Int)=(o2:Int):=by omega
    have F1:=Lib.hid (wrapN o1 (by omega))
    have F2:=Lib.hid (wrapN o2 (by omega))
    by_cases hin:i<N
    ·have hin2:i<n:=by omega
     have f3:(o2:Int)≤1024:=by omega
     have f4:(o1:Int)≤(o2:Int):=by omega
     have f5:o1≤o2:=by omega
     obtain ⟨a,ha⟩:∃ a,at16N s.data.toList o1=a:=⟨_,rfl⟩
     have la:=at16N_lt s.data.toList o1
     have HT1:=Lib.hid (ref_two s o1 o2 a (by omega) (by omega) ha)
     rw [ha] at la
     rw [← e1] at ha
     have HA:=Lib.hid ha
     clear ha
     have WA:=Lib.hid (wrapN a (by omega))
     obtain ⟨p,hp⟩:∃ p,a+2=p:=⟨_,rfl⟩
     have p1:(a:Int)+2=(p:Int):=by omega
     have WP:=Lib.hid (wrapN p (by omega))
     by_cases ha1:1024<p
     ·have ha0:1024<a+2:=by omega
      have STOP:=readGo_none (readGo_stop HRD.out HA.out (.inl ha0)) N hin
      have ANS:Hid (openR s=none):=openN_stop HGO.out STOP
      have ha1':(1024:Int)<(p:Int):=by omega
      obtain ⟨r0,r1,r2⟩:=HR.out.cells3;have rf:=HR.out.frozen;have rz:=HR.out.lt
      skip
      go_wp2_with (first | (go_at_call 148;(with_reducible refine (T6.out _).mono ?_);rintro e w1 ⟨rfl,rfl⟩) | (go_at_call 148;(with_reducible refine (HT1.out _).mono ?_);rintro e w1 ⟨rfl,rfl⟩))
      refine bodyPost_ret (v:=.tuple #[.agg #[.int .i64 0,.int .i64 0,.slice none 0 0],.int .i64 4]) (by simp [results,Tryz.results69,go_sem, *]) rfl ?_
      exact open_none ANS.out (((HB.out.setCell (by simp) _).setCell (by simp) _).setCell (by simp) _)
     ·have ha1':¬ (1024:Int)<(p:Int):=by omega
      have ha2':(p:Int)≤1024:=by omega
      obtain ⟨m,hm⟩:∃ m,at16N s.data.toList a=m:=⟨_,rfl⟩
      have lm:=at16N_lt s.data.toList a
      have HT2:=Lib.hid (ref_two s a p m (by omega) (by omega) hm)
      rw [hm] at lm
      have HM:=Lib.hid hm
      clear hm
      have WM:=Lib.hid (wrapN m (by omega))
      obtain ⟨q,hq⟩:∃ q,p+m=q:=⟨_,rfl⟩
      have p2:(p:Int)+(m:Int)=(q:Int):=by omega
      have WQ:=Lib.hid (wrapN q (by omega))
      by_cases hq1:1024<q
      ·have ha0:1024<a+2+at16N s.data.toList a:=by rw [HM.out];omega
       have STOP:=readGo_none (readGo_stop HRD.out HA.out (.inr ha0)) N hin
       have ANS:Hid (openR s=none):=openN_stop HGO.out STOP
       have HQ1:=Lib.hid hq1
       clear hq1
       obtain ⟨r0,r1,r2⟩:=HR.out.cells3;have rf:=HR.out.frozen;have rz:=HR.out.lt
       skip
       go_wp2_with fail
       (go_at_call 148;(with_reducible refine (T6.out _).mono ?_);rintro e w1 ⟨rfl,rfl⟩)
       go_wp2_with fail
       (go_at_call 148;(with_reducible refine (HT1.out _).mono ?_);rintro e w1 ⟨rfl,rfl⟩)
       clear e1' e2' f3 f4 f5
       go_wp2_with fail
       (go_at_call 148;(with_reducible refine (HT2.out _).mono ?_);rintro e w1 ⟨rfl,rfl⟩)
       have hq1:=HQ1.out
       go_wp2_with fail
       refine bodyPost_ret (v:=.tuple #[.agg #[.int .i64 0,.int .i64 0,.slice none 0 0],.int .i64 4]) (by simp [results,Tryz.results69,go_sem, *]) rfl ?_
       exact open_none ANS.out (((HB.out.setCell (by simp) _).setCell (by simp) _).setCell (by simp) _)
      ·have RD:=Lib.hid (readGo_more HRD.out HA.out HM.out (by omega) (by omega))
       rw [hp,hq] at RD
       obtain ⟨i0,hi0,hz0,hz1,hz2⟩:=info_parts infoString
       have hgne:some g≠Value.ownBlock (.slice A i c):=own_ne HO.out (by omega)
       have HQ1:=Lib.hid hq1
       clear hq1
       skip
       go_wp2_with fail
       (go_at_call 148;(with_reducible refine (T6.out _).mono ?_);rintro e w1 ⟨rfl,rfl⟩)
       go_wp2_with fail
       (go_at_call 148;(with_reducible refine (HT1.out _).mono ?_);rintro e w1 ⟨rfl,rfl⟩)
       clear e1' e2' f3 f4 f5
       go_wp2_with fail
       (go_at_call 148;(with_reducible refine (HT2.out _).mono ?_);rintro e w1 ⟨rfl,rfl⟩)
       have hq1:=HQ1.out
       go_wp2_with fail
       have p3:=WP.out.1;have p4:=WQ.out.1
       obtain ⟨g0,g1,g3⟩:=HG.out.cells3
       have gf:=HG.out.frozen
       have gz:=HG.out.lt
       have hq1':¬ (1024:Int)<(q:Int):=by omega
       have p6:(q:Int)≤1024:=by omega
       have p8:q≤s.size:=by omega
       have p5:(p:Int)≤(q:Int):=by omega
       have p7:p≤q:=by omega
       go_region_law
        (first
          | (refine step_append_lies _ (by rfl) _ _ _ (by rfl) (g+1) 9 i0 _ 1 16 Tryz.underlying44 hi0 hz0 hz1 hz2 rfl (by omega) (.slice A i c) i (strs cs) (by rfl) (HO.out.drew.alloc _) _ 1 1 [.string (s.extract p q)] (by rfl) (by rfl) (World.news_of_block (heap_alloc_new _ _)) (by simp [Value.oneCell']) (by omega) (by simp only [maxLen];omega) (by omega) (by simp;omega) _ rfl ?_;intro gg cap w5 hown5 hgrow hat hlt;have HG5x:=(HG.out.drew.alloc (.cells #[.string (s.extract p q)] 9)).grown hgrow hgne;have gf5:=HG5x.frozen;have gc5:=HG5x.cells3.2.2))
       all_goals
        have HOWN:=Lib.hid hown5
        have HGN:=Lib.hid (HG5x.set 2 (.slice (some ⟨gg,0,none⟩) (i+1) cap))
        have HRN:=Lib.hid (((HR.out.drew.alloc (.cells #[.string (s.extract p q)] 9)).grown hgrow (own_ne HO.out (by omega))).far (p:=⟨g,2,none⟩) (by simp;omega) (.slice (some ⟨gg,0,none⟩) (i+1) cap))
        have HBN:=Lib.hid (((HB.out.drew.alloc HB.out.size (.cells #[.string (s.extract p q)] 9)).grown hgrow (Nat.le_trans HB.out.size (by simp)) (fun k hk=>Nat.le_trans (by omega) (HO.out.lt k hk).1)).setCell (p:=⟨g,2,none⟩) (by simp;omega) (.slice (some ⟨gg,0,none⟩) (i+1) cap))
        clear hown5 hgrow HG5x hat hlt gf5 gc5 p3 p4
        go_wp2_with fail
        go_roundw
        case rel =>
         refine ⟨i+1,by omega,by simp,cs++[s.extract p q],some ⟨gg,0,none⟩,cap,RD.out,by simp [HLEN.out],(readGo_spec hs RD.out).2, ?_,HGN.out,HRN.out,HBN.out,by omega⟩
         rw [show strs (cs++[s.extract p q])=strs cs++[.string (s.extract p q)] by simp [strs]]
         exact ownsRow_setCell_below HOWN.out (by simp) _
        case measure=>simp [intOf];omega
    ·obtain rfl:N=i:=by omega
     have SSW:=SS.of_own HO.out
     have TS:=ref_Seal (k:Int) (l:Int) A N c cs wr SSW (by omega) (by have:=HUS.out;omega)
     obtain ⟨g0,g1,g3⟩:=HG.out.cells3
     have gf:=HG.out.frozen
     have gz:=HG.out.lt
     have FIN:Hid (openR s=fin s k l cs):=by
      rw [HGO.out];unfold openN;rw [HRD.out,Option.bind_some,HL.out];congr 1
     obtain ⟨e,he⟩:∃ e,sealE (k:Int) (l:Int) cs=e:=⟨_,rfl⟩
     obtain ⟨t,ht⟩:∃ t,sealS (k:Int) (l:Int) cs=t:=⟨_,rfl⟩
     unfold fin at FIN
     rw [he,ht] at TS FIN
     have TS:=Lib.hid TS
     clear he ht hin
     by_cases hc:N<n
     ·have f3:¬ (o2:Int)≤1024:=by have:=N3.out hc;omega
      clear N3
      by_cases e0:e=0
      ·subst e0
       by_cases ts:t=s
       ·subst ts
        have ANS:Hid (openR t=some (k,l,cs)):=by rw [FIN.out,if_pos ⟨rfl,rfl⟩];exact Lib.hid rfl
        have wn:=WN.out.1;have wn':=WN.out.2;have f1:=F1.out.1;have f2:=F2.out.1
        go_wp2_with (first | (go_at_call 148;(with_reducible refine (T6.out _).mono ?_);rintro e w1 ⟨rfl,rfl⟩) | (go_at_call 66;refine TS.out.mono ?_;rintro e w1 ⟨rfl,hb⟩;have HR5:=HR.out.belowS hb;obtain ⟨r0,r1,r2⟩:=HR5.cells3;have rf:=HR5.frozen;have rz:=HR5.lt;have HG5:=HG.out.belowS hb;obtain ⟨q0,q1,q2⟩:=HG5.cells3;have qz:=HG5.lt;have HB5:=Lib.hid (bel_step HB.out hb HB.out.size);have HS5:=Lib.hid (SSW.keep hb);clear HR5 HG5))
        clear wn wn' f1 f2
        refine bodyPost_ret (v:=.tuple #[.agg #[.int .i64 k,.int .i64 l,.slice A N c],.int .i64 0]) (by simp [results,Tryz.results69,go_sem, *]) rfl ?_
        have far:∀ o a,A=some a→a.block≠(⟨w.heap.size,o,none⟩:Addr).block:=fun o a e=>by subst e;have:=(HO.out.lt a.block rfl).1;simp;omega
        exact open_some ANS.out HLEN.out (((HS5.out.far (far 0) _).far (far 1) _).far (far 2) _) (((HB5.out.setCell (by simp) _).setCell (by simp) _).setCell (by simp) _)
       ·have ANS:Hid (openR s=none):=by rw [FIN.out,if_neg (fun h=>ts h.2)];exact Lib.hid rfl
        have g6:=ba_ne ts
        have wn:=WN.out.1;have wn':=WN.out.2;have f1:=F1.out.1;have f2:=F2.out.1
        go_wp2_with (first | (go_at_call 148;(with_reducible refine (T6.out _).mono ?_);rintro e w1 ⟨rfl,rfl⟩) | (go_at_call 66;refine TS.out.mono ?_;rintro e w1 ⟨rfl,hb⟩;have HR5:=HR.out.belowS hb;obtain ⟨r0,r1,r2⟩:=HR5.cells3;have rf:=HR5.frozen;have rz:=HR5.lt;have HG5:=HG.out.belowS hb;obtain ⟨q0,q1,q2⟩:=HG5.cells3;have qz:=HG5.lt;have HB5:=Lib.hid (bel_step HB.out hb HB.out.size);have HS5:=Lib.hid (SSW.keep hb);clear HR5 HG5))
        refine bodyPost_ret (v:=.tuple #[.agg #[.int .i64 0,.int .i64 0,.slice none 0 0],.int .i64 4]) (by simp [results,Tryz.results69,go_sem, *]) rfl ?_
        exact open_none ANS.out (((HB5.out.setCell (by simp) _).setCell (by simp) _).setCell (by simp) _)
      ·have ANS:Hid (openR s=none):=by rw [FIN.out,if_neg (fun h=>e0 h.1)];exact Lib.hid rfl
       have g5:(e != (0:Int))=true:=by simp [e0]
       have wn:=WN.out.1;have wn':=WN.out.2;have f1:=F1.out.1;have f2:=F2.out.1
       go_wp2_with (first | (go_at_call 148;(with_reducible refine (T6.out _).mono ?_);rintro e w1 ⟨rfl,rfl⟩) | (go_at_call 66;refine TS.out.mono ?_;rintro e w1 ⟨rfl,hb⟩;have HR5:=HR.out.belowS hb;obtain ⟨r0,r1,r2⟩:=HR5.cells3;have rf:=HR5.frozen;have rz:=HR5.lt;have HG5:=HG.out.belowS hb;obtain ⟨q0,q1,q2⟩:=HG5.cells3;have qz:=HG5.lt;have HB5:=Lib.hid (bel_step HB.out hb HB.out.size);have HS5:=Lib.hid (SSW.keep hb);clear HR5 HG5))
       refine bodyPost_ret (v:=.tuple #[.agg #[.int .i64 0,.int .i64 0,.slice none 0 0],.int .i64 4]) (by simp [results,Tryz.results69,go_sem, *]) rfl ?_
       exact open_none ANS.out (((HB5.out.setCell (by simp) _).setCell (by simp) _).setCell (by simp) _)
     ·clear N3
      by_cases e0:e=0
      ·subst e0
       by_cases ts:t=s
       ·subst ts
        have ANS:Hid (openR t=some (k,l,cs)):=by rw [FIN.out,if_pos ⟨rfl,rfl⟩];exact Lib.hid rfl
        have wn:=WN.out.1;have wn':=WN.out.2;have f1:=F1.out.1;have f2:=F2.out.1
        go_wp2_with (first | (go_at_call 148;(with_reducible refine (T6.out _).mono ?_);rintro e w1 ⟨rfl,rfl⟩) | (go_at_call 66;refine TS.out.mono ?_;rintro e w1 ⟨rfl,hb⟩;have HR5:=HR.out.belowS hb;obtain ⟨r0,r1,r2⟩:=HR5.cells3;have rf:=HR5.frozen;have rz:=HR5.lt;have HG5:=HG.out.belowS hb;obtain ⟨q0,q1,q2⟩:=HG5.cells3;have qz:=HG5.lt;have HB5:=Lib.hid (bel_step HB.out hb HB.out.size);have HS5:=Lib.hid (SSW.keep hb);clear HR5 HG5))
        clear wn wn' f1 f2
        refine bodyPost_ret (v:=.tuple #[.agg #[.int .i64 k,.int .i64 l,.slice A N c],.int .i64 0]) (by simp [results,Tryz.results69,go_sem, *]) rfl ?_
        have far:∀ o a,A=some a→a.block≠(⟨w.heap.size,o,none⟩:Addr).block:=fun o a e=>by subst e;have:=(HO.out.lt a.block rfl).1;simp;omega
        exact open_some ANS.out HLEN.out (((HS5.out.far (far 0) _).far (far 1) _).far (far 2) _) (((HB5.out.setCell (by simp) _).setCell (by simp) _).setCell (by simp) _)
       ·have ANS:Hid (openR s=none):=by rw [FIN.out,if_neg (fun h=>ts h.2)];exact Lib.hid rfl
        have g6:=ba_ne ts
        have wn:=WN.out.1;have wn':=WN.out.2;have f1:=F1.out.1;have f2:=F2.out.1
        go_wp2_with (first | (go_at_call 148;(with_reducible refine (T6.out _).mono ?_);rintro e w1 ⟨rfl,rfl⟩) | (go_at_call 66;refine TS.out.mono ?_;rintro e w1 ⟨rfl,hb⟩;have HR5:=HR.out.belowS hb;obtain ⟨r0,r1,r2⟩:=HR5.cells3;have rf:=HR5.frozen;have rz:=HR5.lt;have HG5:=HG.out.belowS hb;obtain ⟨q0,q1,q2⟩:=HG5.cells3;have qz:=HG5.lt;have HB5:=Lib.hid (bel_step HB.out hb HB.out.size);have HS5:=Lib.hid (SSW.keep hb);clear HR5 HG5))
        refine bodyPost_ret (v:=.tuple #[.agg #[.int .i64 0,.int .i64 0,.slice none 0 0],.int .i64 4]) (by simp [results,Tryz.results69,go_sem, *]) rfl ?_
        exact open_none ANS.out (((HB5.out.setCell (by simp) _).setCell (by simp) _).setCell (by simp) _)
      ·have ANS:Hid (openR s=none):=by rw [FIN.out,if_neg (fun h=>e0 h.1)];exact Lib.hid rfl
       have g5:(e != (0:Int))=true:=by simp [e0]
       have wn:=WN.out.1;have wn':=WN.out.2;have f1:=F1.out.1;have f2:=F2.out.1
       go_wp2_with (first | (go_at_call 148;(with_reducible refine (T6.out _).mono ?_);rintro e w1 ⟨rfl,rfl⟩) | (go_at_call 66;refine TS.out.mono ?_;rintro e w1 ⟨rfl,hb⟩;have HR5:=HR.out.belowS hb;obtain ⟨r0,r1,r2⟩:=HR5.cells3;have rf:=HR5.frozen;have rz:=HR5.lt;have HG5:=HG.out.belowS hb;obtain ⟨q0,q1,q2⟩:=HG5.cells3;have qz:=HG5.lt;have HB5:=Lib.hid (bel_step HB.out hb HB.out.size);have HS5:=Lib.hid (SSW.keep hb);clear HR5 HG5))
       refine bodyPost_ret (v:=.tuple #[.agg #[.int .i64 0,.int .i64 0,.slice none 0 0],.int .i64 4]) (by simp [results,Tryz.results69,go_sem, *]) rfl ?_
       exact open_none ANS.out (((HB5.out.setCell (by simp) _).setCell (by simp) _).setCell (by simp) _)
 ·have ANS:=Lib.hid (openR_size h1)
  have g2:((s.size:Int) != 1024)=true:=by simp;omega
  obtain ⟨r0,r1,r2⟩:=HR0.out.cells3
  have rf:=HR0.out.frozen
  have rz:=HR0.out.lt
  go_enter Tryz.func69,Tryz.ntmps69
  go_wp2_with fail
  refine bodyPost_ret (v:=.tuple #[.agg #[.int .i64 0,.int .i64 0,.slice none 0 0],.int .i64 4]) (by simp [results,Tryz.results69,go_sem, *]) rfl ?_
  exact open_none ANS.out HB0.out
end Go.Proofs.YtjihboddejaelaaGreat
namespace Go.Proofs.YtjihboddejaelaaGreat
open Go.RowKit
open Go.BigFrame
theorem QM.withFree {w:World} {rd r q:Nat} {x:Qx} {P:Pl} (h:QM w rd r q x P) (n:Nat):QM w rd r q x { P with free:=n }:=⟨h.log,h.obj,h.disj,h.same⟩
theorem unpin_set {F:List Pf} {i:Nat} {f:Pf} (hn:(F.map (·.n)).Nodup) (hf:F[i]? = some f):unpinN f.n F=F.set i { f with pins:=f.pins-1 }:=by
 obtain ⟨hi,hfi⟩:=List.getElem?_eq_some_iff.1 hf
 apply List.ext_getElem?
 intro j
 unfold unpinN
 rw [List.getElem?_map,List.getElem?_set]
 by_cases hj:i=j
 ·subst hj
  rw [if_pos rfl,if_pos hi,hf]
  show some (if f.n=f.n then _ else f)=_
  rw [if_pos rfl]
 ·rw [if_neg hj]
  cases hg:F[j]? with
  | none=>rfl
  | some g =>
    obtain ⟨hj2,hgj⟩:=List.getElem?_eq_some_iff.1 hg
    have hne:¬ g.n=f.n:=fun e=>by
     have h1:(F.map (·.n))[i]? = some f.n:=by rw [List.getElem?_map,hf];rfl
     have h2:(F.map (·.n))[j]? = some f.n:=by rw [List.getElem?_map,hg];exact congrArg some e
     exact hj ((List.getElem?_inj (by simpa using hi) hn).1 (h1.trans h2.symm))
    show some (if g.n=f.n then _ else g)=_
    rw [if_neg hne]
set_option maxRecDepth 100000 in
set_option maxHeartbeats 6400000 in
theorem ref_Unpin (rd r q:Nat) (x:Qx) (P:Pl) (n:Int) (w:World) (h:QM w rd r q x P) (ok:P.ok) (hp:∀ f∈P.ring,f.pins≤1000000) :
 Calls Tryz.prog 78 #[.pointer (some ⟨q,0,none⟩),.int .i64 n] w (QPost2 w rd r q x 0 (P.unpin n).1 (.int .i64 (P.unpin n).2)):=by
 have HH:=Lib.hid h
 have xz:=h.head.2.1
 have hl:P.ring.length≤64:=Nat.le_trans ok.full ok.most
 have FD:=Lib.hid (fun w1 (h1:QM w1 rd r q x P)=>ref_find rd r q x P n w1 h1 (by omega))
 have NM:=Lib.hid ok.names
 clear h ok
 rcases idx_cases n P.ring with ⟨c1,c2⟩ | ⟨i,f,c1,c2,c3,c4,c5⟩
 ·have HE:Hid (P.unpin n=(P,11)):=by unfold Pl.unpin;rw [c1];exact Lib.hid rfl
  rw [c2] at FD
  rw [HE.out]
  clear c1 c2 hp
  go_enter Tryz.func78,Tryz.ntmps78
  go_wp2_with (go_at_call 157;(with_reducible refine (FD.out _ HH.out).mono ?_);rintro e w1 ⟨rfl,hb1⟩;have HB1:=Lib.hid hb1;clear hb1)
  go_ret
  exact ⟨rfl,x,HH.out.below HB1.out,Turn.below _ HB1.out,Nat.le_add_right ..⟩
 ·rw [c4] at FD
  have hpf:=hp f (List.mem_of_getElem? c1)
  have hi:=(List.getElem?_eq_some_iff.1 c1).1
  obtain ⟨A,k,x2,_,hF,_,hgq⟩:=HH.out.frames
  obtain ⟨g,rfl,hg,hfz,hcc⟩:=hF.2 (by omega)
  obtain ⟨a0,a1,a2,a3⟩:=hcc i f c1
  have HFI:=Lib.hid c1
  have X2:=Lib.hid x2
  by_cases hp0:f.pins=0
  ·have HE:Hid (P.unpin n=(P,11)):=by unfold Pl.unpin;rw [c3];exact Lib.hid (if_pos hp0)
   rw [hp0] at a2
   have a2:w.cell? ⟨g,i*4+2,none⟩=some (.int .i64 0):=a2
   rw [HE.out]
   clear c1 c2 c3 c4 c5 hp hF hcc hp0 hpf
   go_enter Tryz.func78,Tryz.ntmps78
   go_wp2_with (go_at_call 157;(with_reducible refine (FD.out _ HH.out).mono ?_);rintro e w1 ⟨rfl,hb1⟩;have HB1:=Lib.hid hb1;have y2:=((bcell hb1).1 q 2 xz).trans x2;have yz:=Nat.lt_of_lt_of_le xz hb1.size;have d2:=((bcell hb1).1 g (i*4+2) hg).trans a2;clear hb1)
   go_ret
   exact ⟨rfl,x,HH.out.below HB1.out,Turn.below _ HB1.out,Nat.le_add_right ..⟩
  ·have HE:Hid (P.unpin n=({ P with ring:=P.ring.set i { f with pins:=f.pins-1 } },0)):=by
    rw [← unpin_set NM.out c1]
    unfold Pl.unpin;rw [c3];exact Lib.hid (if_neg hp0)
   have g0:((f.pins:Int) == 0)=false:=by rw [beq_eq_false_iff_ne];omega
   have wp1:wrap64 ((f.pins:Int)-1)=((f.pins-1:Nat):Int):=by rw [IntWalk.wrap64_in _ (by omega)];omega
   rw [HE.out]
   clear c1 c2 c3 c4 c5 hp hF hcc hp0 hpf
   go_enter Tryz.func78,Tryz.ntmps78
   go_wp2_with (go_at_call 157;(with_reducible refine (FD.out _ HH.out).mono ?_);rintro e w1 ⟨rfl,hb1⟩;have HB1:=Lib.hid hb1;have y2:=((bcell hb1).1 q 2 xz).trans x2;have yz:=Nat.lt_of_lt_of_le xz hb1.size;have d2:=((bcell hb1).1 g (i*4+2) hg).trans a2;have gz:=Nat.lt_of_lt_of_le hg hb1.size;have df:=fun i=>((bcell hb1).2 g i hg).trans (hfz i);have Y2:=Lib.hid y2;clear hb1)
   go_ret
   rw [wp1]
   obtain ⟨q1,t1⟩:=(HH.out.below HB1.out).setHeld (A:=none) (P':={ P with ring:=P.ring.set i { f with pins:=f.pins-1 } }) Y2.out HFI.out (j:=2) (f':={ f with pins:=f.pins-1 }) (u:=.int .i64 ((f.pins-1:Nat):Int)) (by omega) rfl rfl rfl rfl (fun _ _=>rfl)
   exact ⟨rfl,x,q1,(Turn.below _ HB1.out).trans t1,Nat.le_add_right ..⟩
theorem ref_OpenRoot (l:Nat) (hl:l≤2147483647) (w:World):Calls Tryz.prog 69 #[.string (sealS 4 l [])] w fun e w'=>∃ A c,e = .returned (.tuple #[.agg #[.int .i64 4,.int .i64 l,.slice A 0 c],.int .i64 0])∧Below w.heap.size w w':=by
 have h:=ref_Open (sealS 4 l []) (by rw [root_len hl];omega) w
 rw [← open_same,open_root hl] at h
 refine h.mono ?_
 rintro e w' ⟨A,c,h1,_,h3⟩
 exact ⟨A,c,h1,h3⟩
theorem ref_SealF (K l:Nat) (A:Option Addr) (c:Nat) (w:World):Calls Tryz.prog 66 #[.agg #[.int .i64 K,.int .i64 l,.slice A 0 c]] w fun e w'=>e = .returned (.tuple #[.string (sealS K l []),.int .i64 (sealE K l [])])∧Below w.heap.size w w' :=
 ref_Seal K l A 0 c [] w ⟨rfl,fun h=>absurd h (by omega)⟩ (by omega) (by decide)
def Pl.rootS (P:Pl):ByteArray:=match findN 0 P.ring with | some f=>f.s | none=>P.L.rw.readS 0
set_option maxRecDepth 100000 in
set_option maxHeartbeats 6400000 in
theorem ref_first (rd r q:Nat) (x:Qx) (P:Pl) (w:World) (h:QM w rd r q x P) (ok:P.ok) (hd:P.L.D.down=false) (hfit:Fit P.L.D 0) (hlen:P.L.fs.length≤90000) (l:Nat) (hl2:l≤2147483647) (hR:P.rootS=sealS 4 l []) :
 Calls Tryz.prog 158 #[.pointer (some ⟨q,0,none⟩)] w fun e w'=>e = .returned (.int .i64 l)∧Below w.heap.size w w':=by
 have HH:=Lib.hid h
 have xz:=h.head.2.1
 have x0:=h.cells.1
 have hl:P.ring.length≤64:=Nat.le_trans ok.full ok.most
 have FD:=Lib.hid (fun w1 (h1:QM w1 rd r q x P)=>ref_find rd r q x P 0 w1 h1 (by omega))
 have OP:=Lib.hid (fun w1=>ref_OpenRoot l hl2 w1)
 have RDR:=Lib.hid (fun w1 (h1:QM w1 rd r q x P)=>qm_Read h1 ok.log hd (by have:=hfit.waits;omega) (by omega) 0)
 clear h ok hd hfit hlen hl2
 unfold Pl.rootS at hR
 rcases idx_cases 0 P.ring with ⟨c1,c2⟩ | ⟨i,f,c1,c2,c3,c4,c5⟩
 ·rw [c1] at hR
  dsimp only at hR
  rw [hR] at RDR
  rw [c2] at FD
  obtain ⟨S,hS⟩:∃ S,sealS 4 l []=S:=⟨_,rfl⟩
  obtain ⟨E,hE⟩:∃ S,P.L.rw.readE 0=S:=⟨_,rfl⟩
  rw [hS] at OP RDR
  rw [hE] at RDR
  clear hS hE hR c1 c2
  go_enter Tryz.func158,Tryz.ntmps158
  go_wp2_with (first | (go_at_call 157;(with_reducible refine (FD.out _ HH.out).mono ?_);rintro e w1 ⟨rfl,hb1⟩;have HB1:=Lib.hid hb1;have y0:=((bcell hb1).1 q 0 xz).trans x0;have yz:=Nat.lt_of_lt_of_le xz hb1.size;clear hb1) | (go_at_call 68;(with_reducible refine (RDR.out _ (HH.out.below HB1.out)).mono ?_);rintro e w3 ⟨rfl,hb3⟩;have HB3:=Lib.hid (bel_step HB1.out hb3 HB1.out.size);clear hb3) | (go_at_call 69;(with_reducible refine (OP.out _).mono ?_);rintro e w4 ⟨A4,c4,rfl,hb4⟩;have HB4:=Lib.hid (bel_step HB3.out hb4 HB3.out.size);clear hb4))
  go_ret
  exact ⟨rfl,HB4.out.alloc HB4.out.size _⟩
 ·rw [c3] at hR
  dsimp only at hR
  rw [c4] at FD
  have hi:=(List.getElem?_eq_some_iff.1 c1).1
  obtain ⟨A,k,x2,_,hF,_,hgq⟩:=HH.out.frames
  obtain ⟨g,rfl,hg,hfz,hcc⟩:=hF.2 (by omega)
  obtain ⟨a0,a1,a2,a3⟩:=hcc i f c1
  rw [hR] at a1
  obtain ⟨S,hS⟩:∃ S,sealS 4 l []=S:=⟨_,rfl⟩
  rw [hS] at OP a1
  clear hS hR c1 c2 c3 c4 c5 hcc hF
  go_enter Tryz.func158,Tryz.ntmps158
  go_wp2_with (first | (go_at_call 157;(with_reducible refine (FD.out _ HH.out).mono ?_);rintro e w1 ⟨rfl,hb1⟩;have HB1:=Lib.hid hb1;have y2:=((bcell hb1).1 q 2 xz).trans x2;have yz:=Nat.lt_of_lt_of_le xz hb1.size;have d1:=((bcell hb1).1 g (i*4+1) hg).trans a1;clear hb1) | (go_at_call 69;(with_reducible refine (OP.out _).mono ?_);rintro e w4 ⟨A4,c4,rfl,hb4⟩;have HB4:=Lib.hid (bel_step HB1.out hb4 HB1.out.size);clear hb4))
  go_ret
  exact ⟨rfl,HB4.out.alloc HB4.out.size _⟩
def Pl.linkV (P:Pl) (n:Int):Value :=
 if (P.get n).2=0 then (match openP (P.text n) with | none=>.tuple #[.int .i64 (-1),.int .i64 4] | some pg=>.tuple #[.int .i64 pg.2.1,.int .i64 0]) else .tuple #[.int .i64 (-1),.int .i64 (P.get n).2]
theorem text_size {P:Pl} (ok:P.ok) (n:Int):(P.text n).size≤1048576:=by
 unfold Pl.text
 split
 ·exact Nat.le_trans (lastF_size (get_ok ok n)) (by omega)
 ·exact Nat.zero_le _
set_option maxRecDepth 100000 in
set_option maxHeartbeats 6400000 in
theorem ref_link (rd r q:Nat) (x:Qx) (P:Pl) (n:Int) (w:World) (h:QM w rd r q x P) (ok:P.ok) (hd:P.L.D.down=false) (hfit:Fit P.L.D 1) (hlen:P.L.fs.length≤90000) :
 Calls Tryz.prog 160 #[.pointer (some ⟨q,0,none⟩),.int .i64 n] w (QPost2 w rd r q x 0 (P.get n).1 (P.linkV n)):=by
 have RD:=Lib.hid (ref_PRead rd r q x P n w h ok hd hfit hlen)
 have TZ:=text_size ok n
 have OP:=Lib.hid (fun w=>ref_Open (P.text n) TZ w)
 have LV:Hid (P.linkV n=if (P.get n).2=0 then (match openP (P.text n) with | none=>.tuple #[.int .i64 (-1),.int .i64 4] | some pg=>.tuple #[.int .i64 pg.2.1,.int .i64 0]) else .tuple #[.int .i64 (-1),.int .i64 (P.get n).2]):=rfl
 obtain ⟨T,hT⟩:∃ T,P.text n=T:=⟨_,rfl⟩
 obtain ⟨Q,hQ⟩:∃ Q,(P.get n).1=Q:=⟨_,rfl⟩
 obtain ⟨E,hE⟩:∃ E,(P.get n).2=E:=⟨_,rfl⟩
 obtain ⟨V,hV⟩:∃ V,P.linkV n=V:=⟨_,rfl⟩
 rw [hT,hQ,hE] at RD
 rw [hT] at OP
 rw [hT,hE,hV] at LV
 rw [hQ,hV]
 rw [← open_same] at OP
 clear h ok hd hfit hlen hT hQ hE hV TZ
 by_cases hE0:E=0
 ·subst hE0
  have LV2:=Lib.hid (LV.out.trans (if_pos rfl))
  clear LV
  cases ho:openP T with
  | none =>
    have OP2:Hid (∀ w,Calls Tryz.prog 69 #[.string T] w fun e w'=>e = .returned (.tuple #[.agg #[.int .i64 0,.int .i64 0,.slice none 0 0],.int .i64 4])∧Below w.heap.size w w'):=fun w=>by
     have:=OP.out w
     rw [ho] at this;exact this
    have LV3:Hid (V = .tuple #[.int .i64 (-1),.int .i64 4]):=by have:=LV2.out;rw [ho] at this;exact this
    clear OP LV2 ho
    go_enter Tryz.func160,Tryz.ntmps160
    go_wp2_with (first | (go_at_call 71;(with_reducible refine RD.out.mono ?_);rintro en w1 ⟨rfl,x2,hq2,ht2,hn2⟩;have HQ2:=Lib.hid hq2;have HT2:=Lib.hid ht2;have HN2:=Lib.hid hn2;clear hq2 ht2 hn2) | (go_at_call 69;(with_reducible refine (OP2.out _).mono ?_);rintro en w2 ⟨rfl,hb2⟩;have HB2:=Lib.hid (hb2.alloc hb2.size (.cells #[.int .i64 0,.int .i64 0,.slice none 0 0] 114));clear hb2))
    go_ret2
    rw [LV3.out]
    exact ⟨rfl,x2,HQ2.out.below HB2.out,HT2.out.trans (Turn.below _ HB2.out),HN2.out⟩
  | some pg =>
    obtain ⟨k,l,cs⟩:=pg
    have OP2:Hid (∀ w,Calls Tryz.prog 69 #[.string T] w fun e w'=>∃ A c,e = .returned (.tuple #[.agg #[.int .i64 k,.int .i64 l,.slice A cs.length c],.int .i64 0])∧SS w' A cs.length cs∧Below w.heap.size w w'):=fun w=>by
     have:=OP.out w
     rw [ho] at this;exact this
    have LV3:Hid (V = .tuple #[.int .i64 l,.int .i64 0]):=by have:=LV2.out;rw [ho] at this;exact this
    clear OP LV2 ho
    go_enter Tryz.func160,Tryz.ntmps160
    go_wp2_with (first | (go_at_call 71;(with_reducible refine RD.out.mono ?_);rintro en w1 ⟨rfl,x2,hq2,ht2,hn2⟩;have HQ2:=Lib.hid hq2;have HT2:=Lib.hid ht2;have HN2:=Lib.hid hn2;clear hq2 ht2 hn2) | (go_at_call 69;(with_reducible refine (OP2.out _).mono ?_);rintro en w2 ⟨A2,c2,rfl,_,hb2⟩;have HB2:=Lib.hid (hb2.alloc hb2.size (.cells #[.int .i64 k,.int .i64 l,.slice A2 cs.length c2] 114));clear hb2))
    go_ret2
    rw [LV3.out]
    exact ⟨rfl,x2,HQ2.out.below HB2.out,HT2.out.trans (Turn.below _ HB2.out),HN2.out⟩
 ·have LV3:=Lib.hid (LV.out.trans (if_neg hE0))
  clear LV OP
  go_enter Tryz.func160,Tryz.ntmps160
  go_wp2_with (go_at_call 71;(with_reducible refine RD.out.mono ?_);rintro en w1 ⟨rfl,x2,hq2,ht2,hn2⟩)
  go_ret2
  rw [LV3.out]
  exact ⟨rfl,x2,hq2,ht2,hn2⟩
set_option maxRecDepth 100000 in
set_option maxHeartbeats 6400000 in
theorem ref_setFree (rd r q:Nat) (x:Qx) (P:Pl) (n:Nat) (hn:n≤2147483647) (w:World) (h:QM w rd r q x P) (ok:P.ok) (hd:P.L.D.down=false) (hfit:Fit P.L.D 2) (hlen:P.L.fs.length≤80000) (hT:x.T.length≤1000000) (l:Nat) (hl:l≤2147483647) (hR:(P.get 0).2=0→(P.get 0).1.lastF.s=sealS 4 l []) :
 Calls Tryz.prog 161 #[.pointer (some ⟨q,0,none⟩),.int .i64 n] w (QPost2 w rd r q x 1 (P.setFree n).1 (.int .i64 (P.setFree n).2)):=by
 have RD:=Lib.hid (ref_PRead rd r q x P 0 w h ok hd (hfit.less (by omega)) (by omega))
 have TX:Hid (P.text 0=if (P.get 0).2=0 then (P.get 0).1.lastF.s else ⟨#[]⟩):=rfl
 by_cases hE0:(P.get 0).2=0
 ·have TX2:P.text 0=sealS 4 l []:=(TX.out.trans (if_pos hE0)).trans (hR hE0)
  rw [TX2,hE0] at RD
  have HS:Hid (P.setFree n=if ((P.get 0).1.put 0 (sealS 4 n [])).2=0 then ({ ((P.get 0).1.put 0 (sealS 4 n [])).1 with free:=n },0) else (P.get 0).1.put 0 (sealS 4 n [])):=by
   unfold Pl.setFree
   rw [if_pos hE0,hR hE0,open_root hl]
   exact Lib.hid rfl
  have UP:=Lib.hid (get_up hd hE0)
  have GOK:=Lib.hid (get_ok ok 0)
  have GF:=Lib.hid (get_fit (k:=1) hfit 0)
  have GL:=Lib.hid (get_frames (P:=P) 0)
  obtain ⟨Q,hQ⟩:∃ Q,(P.get 0).1=Q:=⟨_,rfl⟩
  rw [hQ] at RD HS UP GOK GF GL
  have OP:=Lib.hid (fun w1=>ref_OpenRoot l hl w1)
  have SL:=Lib.hid (fun A c w1=>ref_SealF 4 n A c w1)
  have PT:=Lib.hid (fun w1 x1 (h1:QM w1 rd r q x1 Q) (ht:x1.T.length≤1000000)=>ref_put rd r q x1 Q 0 (sealS 4 n []) w1 h1 GOK.out UP.out GF.out (by have:=GL.out;omega) ht)
  obtain ⟨S,hS⟩:∃ S,sealS 4 n []=S:=⟨_,rfl⟩
  obtain ⟨S0,hS0⟩:∃ S,sealS 4 l []=S:=⟨_,rfl⟩
  obtain ⟨SE,hSE⟩:∃ S,sealE 4 n []=S:=⟨_,rfl⟩
  rw [hS0] at RD OP
  rw [show (((4:Nat):Int))=4 from rfl,hS,hSE] at SL
  rw [hS] at PT HS
  obtain ⟨R,hRR⟩:∃ R,(Q.put 0 S).1=R:=⟨_,rfl⟩
  obtain ⟨E,hE⟩:∃ E,(Q.put 0 S).2=E:=⟨_,rfl⟩
  have hPQ:Q.put 0 S=(R,E):=by rw [← hRR,← hE]
  rw [hPQ] at HS PT
  dsimp only at HS PT
  have XT:=Lib.hid hT
  have HA:Hid ((P.setFree n).2=E∧∀ w x,QM w rd r q x R→QM w rd r q x (P.setFree n).1):=by
   rw [HS.out]
   by_cases h0:E=0
   ·rw [if_pos h0];exact ⟨h0.symm,fun w x h=>h.withFree n⟩
   ·rw [if_neg h0];exact ⟨rfl,fun w x h=>h⟩
  rw [HA.out.1]
  clear h ok hd hfit hlen hl hR TX TX2 hE0 hQ hS hS0 hSE hRR hE hPQ HS hn hT
  go_enter Tryz.func161,Tryz.ntmps161
  go_wp2_with (first
   | (go_at_call 71;(with_reducible refine RD.out.mono ?_);rintro en w1 ⟨rfl,x2,hq2,ht2,hn2⟩;have HQ2:=Lib.hid hq2;have HT2:=Lib.hid ht2;have HN2:=Lib.hid hn2;clear hq2 ht2 hn2)
   | (go_at_call 69;(with_reducible refine (OP.out _).mono ?_);rintro en w2 ⟨A2,c2,rfl,hb2⟩;have HB2:=Lib.hid (hb2.alloc hb2.size (.cells #[.int .i64 4,.int .i64 n,.slice A2 0 c2] 114));clear hb2)
   | (go_at_call 66;(with_reducible refine (SL.out _ _ _).mono ?_);rintro en w3 ⟨rfl,hb3⟩;have HB3:=Lib.hid (bel_step HB2.out hb3 HB2.out.size))
   | (go_at_call 156;(with_reducible refine (PT.out _ _ (HQ2.out.below HB3.out) (by have:=HN2.out;have:=XT.out;omega)).mono ?_);rintro en w4 ⟨rfl,x4,hq4,ht4,hn4⟩))
  go_ret
  exact ⟨rfl,x4,HA.out.2 _ _ hq4,(HT2.out.trans (Turn.below _ HB3.out)).trans ht4,by have:=HN2.out;omega⟩
 ·have HS:Hid (P.setFree n=P.get 0):=if_neg hE0
  rw [HS.out]
  obtain ⟨Q,hQ⟩:∃ Q,(P.get 0).1=Q:=⟨_,rfl⟩
  obtain ⟨E,hE⟩:∃ E,(P.get 0).2=E:=⟨_,rfl⟩
  rw [hQ,hE] at RD
  rw [hQ,hE]
  rw [hE] at hE0
  clear h ok hd hfit hlen hT hR hQ hE TX HS
  go_enter Tryz.func161,Tryz.ntmps161
  go_wp2_with (go_at_call 71;(with_reducible refine RD.out.mono ?_);rintro en w1 ⟨rfl,x2,hq2,ht2,hn2⟩)
  go_ret
  exact ⟨rfl,x2,hq2,ht2,by omega⟩
end Go.Proofs.YtjihboddejaelaaGreat
namespace Go.Proofs.YtjihboddejaelaaGreat
open Go.RowKit
open Go.BigFrame
section
variable {P:Pl} {B N:Bk} {mf:Nat}
theorem put_up (hd:P.L.D.down=false) {x:Int} {s:ByteArray} (h:(P.put x s).2=0):(P.put x s).1.L.D.down=false:=by
 unfold Pl.put at h ⊢
 by_cases h1:(P.get x).2=0
 ·rw [if_pos h1];exact get_up hd h1
 ·rw [if_neg h1] at h;exact absurd h h1
theorem setFree_up (hd:P.L.D.down=false) {n:Nat} (h:(P.setFree n).2=0):(P.setFree n).1.L.D.down=false:=by
 unfold Pl.setFree at h ⊢
 by_cases h1:(P.get 0).2=0
 ·rw [if_pos h1] at h ⊢
  cases ho:openP (P.get 0).1.lastF.s with
  | none=>rw [ho] at h;cases h
  | some pg =>
    rw [ho] at h
    dsimp only at h ⊢
    by_cases h2:((P.get 0).1.put 0 (sealS 4 n pg.2.2)).2=0
    ·rw [if_pos h2];exact put_up (get_up hd h1) h2
    ·rw [if_neg h2] at h;exact absurd h h2
 ·rw [if_neg h1] at h;exact absurd h h1
theorem rootS_is (h:PIn mf P B N) {l:Nat} (r:Root N l) (hd:P.L.D.down=false):P.rootS=sealS 4 l []:=by
 unfold Pl.rootS
 cases hf:findN 0 P.ring with
 | some f =>
   obtain ⟨F1,F2,e,h1,_⟩:=find_split hf
   have:=(h.ring f (by rw [e];simp)).1
   show f.s=_
   rw [this,show f.n=0 by omega];exact r.text
 | none =>
   have hnone:=find_none hf
   have hl:=h.lies 0 r.pos fun f hf2 hn=>absurd (by rw [hn];rfl) (hnone f hf2)
   have:=((reads_b h.log.safe (n:=0) (by omega) hl).1 hd).2
   show P.L.rw.readS 0=_
   rw [← r.text];exact this
theorem root_get (h:PIn mf P B N) {l:Nat} (r:Root N l) (hw:wt P≤60000) (hE:(P.get 0).2=0):(P.get 0).1.lastF.s=sealS 4 l []:=by
 rw [(get_textI h hw hE).2.2];exact r.text
theorem fs_wt:P.L.fs.length≤wt P:=Nat.le_add_right ..
end
set_option maxRecDepth 100000 in
set_option maxHeartbeats 6400000 in
theorem ref_grow (rd r q:Nat) (x:Qx) (P:Pl) (w:World) (h:QM w rd r q x P) (ok:P.ok) (hd:P.L.D.down=false) (hfit:Fit P.L.D 1) (hlen:P.L.fs.length≤80000) (hT:x.T.length≤1000000) (hR:P.rootS=sealS 4 P.free []) (hf:P.free=0) :
 Calls Tryz.prog 79 #[.pointer (some ⟨q,0,none⟩)] w (QPost2 w rd r q x 2 P.alloc.1 (.tuple #[.int .i64 P.allocT,.int .i64 P.alloc.2])):=by
 have HH:=Lib.hid h
 obtain ⟨x0,x1,x3,x5,x6,x7⟩:=h.cells
 have xz:=h.head.2.1
 have hrd:=h.log.cells.1
 have hrz:=h.log.cells.2.2.2.2.2.1
 have hdd:w.cell? ⟨rd,4,none⟩=some (.bool false):=by have:=h.log.disk.downC;rw [hd] at this;exact this
 have hdz:rd<w.heap.size:=h.log.disk.cells.2.2.2
 have pb1:(P.pages:Int)≤65536:=by have:=ok.few;omega
 rw [hf] at hR
 have Fz9:=Lib.hid (fun w1 (h1:QM w1 rd r q x P)=>ref_first rd r q x P w1 h1 ok hd (hfit.less (by omega)) (by omega) 0 (by omega) hR)
 rw [show (((0:Nat)):Int)=0 from rfl] at Fz9
 have SB:=Lib.hid (fun w1=>ref_SealF 3 0 none 0 w1)
 rw [show (((0:Nat)):Int)=0 from rfl,show (((3:Nat)):Int)=3 from rfl] at SB
 obtain ⟨S,hS⟩:∃ S,blankS=S:=⟨_,rfl⟩
 obtain ⟨E3,hE3⟩:∃ E,sealE 3 0 []=E:=⟨_,rfl⟩
 have hS2:sealS 3 0 []=S:=hS
 rw [hS2,hE3] at SB
 have HA:Hid (P.alloc=if 67108864<(P.pages+1)*1024 then (P,8) else P.grow):=if_pos hf
 have HT:Hid (P.allocT=if P.alloc.2=0 then P.pages else 0):=by
  have:P.allocN=P.pages:=if_pos hf
  unfold Pl.allocT;rw [this];exact Lib.hid rfl
 by_cases hbig:67108864<(P.pages+1)*1024
 ·have HA2:=Lib.hid (HA.out.trans (if_pos hbig))
  have HT2:Hid (P.allocT=0):=by have:=HT.out;rw [HA2.out] at this;exact this
  have g1:(67108864:Int)<1024*((P.pages:Int)+1):=by omega
  rw [HA2.out,HT2.out]
  clear h ok hfit hd hlen hT hf HA HT hbig hR hS hS2 hE3 x1 x5 x6 x7
  go_enter Tryz.func79,Tryz.ntmps79
  go_wp2_with (first | (go_at_call 66;(with_reducible refine (SB.out _).mono ?_);rintro en w1 ⟨rfl,hb1⟩;have HB1:=Lib.hid hb1;have y0:=((bcell hb1).1 q 0 xz).trans x0;have y3:=((bcell hb1).1 q 3 xz).trans x3;have yz:=Nat.lt_of_lt_of_le xz hb1.size;have yr:=((bcell hb1).1 r 0 hrz).trans hrd;have yrz:=Nat.lt_of_lt_of_le hrz hb1.size;have yd:=((bcell hb1).1 rd 4 hdz).trans hdd;have ydz:=Nat.lt_of_lt_of_le hdz hb1.size;clear hb1 x0 x3 xz) | (go_at_call 158;(with_reducible refine (Fz9.out _ (HH.out.below HB1.out)).mono ?_);rintro en w2 ⟨rfl,hb2⟩;have HB2:=Lib.hid (bel_step HB1.out hb2 HB1.out.size);have z3:=((bcell hb2).1 q 3 yz).trans y3;have zz:=Nat.lt_of_lt_of_le yz hb2.size;clear hb2))
  go_ret2
  exact ⟨rfl,x,HH.out.below HB2.out,Turn.below _ HB2.out,Nat.le_add_right ..⟩
 ·have HA2:=Lib.hid (HA.out.trans (if_neg hbig))
  have d1:decide ((67108864:Int)<1024*((P.pages:Int)+1))=false:=decide_eq_false (by omega)
  have RM:=Lib.hid (fun w1 (h1:QM w1 rd r q x P)=>ref_room rd r q x P w1 h1 ok hfit (by omega))
  have RO:=Lib.hid (room_ok ok)
  have RS:=Lib.hid (room_same (P:=P))
  have HG:Hid (P.grow=if P.room.2=0 then ({ P.room.1 with pages:=P.room.1.pages+1,ring:=P.room.1.ring++[⟨P.room.1.pages,blankS,0,true⟩],turned:=insN P.room.1.pages P.room.1.turned },0) else P.room):=rfl
  obtain ⟨R,hRR⟩:∃ R,P.room.1=R:=⟨_,rfl⟩
  obtain ⟨E,hE⟩:∃ E,P.room.2=E:=⟨_,rfl⟩
  have hPR:P.room=(R,E):=by rw [← hRR,← hE]
  rw [hPR] at RM RO RS HG
  dsimp only at RM RO RS HG
  rw [hS] at HG
  have TL:=Lib.hid hT
  clear h ok hfit hd hlen hT hf HA hRR hE hPR hbig hR hS hS2 hE3 x1 x5 x6 x7
  by_cases hE0:E=0
  ·subst hE0
   have HG2:=Lib.hid (HG.out.trans (if_pos rfl))
   have HT2:Hid (P.allocT=R.pages):=by have:=HT.out;rw [HA2.out,HG2.out] at this;exact this.trans RS.out.2.1.symm
   have rb1:(R.pages:Int)≤65536:=by have:=RO.out.1.few;omega
   have rl:R.ring.length<64:=by have:=RO.out.2 rfl;have:=RS.out.1;have:=RO.out.1.most;omega
   have G1:=Lib.hid (show R.ring.length+1≤maxLen by unfold maxLen;omega)
   have G2:=Lib.hid (show (R.ring.length+1)*40≤140737488355328 by omega)
   rw [HA2.out,HG2.out,HT2.out]
   clear HG HT RS rl
   go_enter Tryz.func79,Tryz.ntmps79
   go_upto_region 13 with (first | (go_at_call 66;(with_reducible refine (SB.out _).mono ?_);rintro en w1 ⟨rfl,hb1⟩;have HB1:=Lib.hid hb1;have y0:=((bcell hb1).1 q 0 xz).trans x0;have y3:=((bcell hb1).1 q 3 xz).trans x3;have yz:=Nat.lt_of_lt_of_le xz hb1.size;have yr:=((bcell hb1).1 r 0 hrz).trans hrd;have yrz:=Nat.lt_of_lt_of_le hrz hb1.size;have yd:=((bcell hb1).1 rd 4 hdz).trans hdd;have ydz:=Nat.lt_of_lt_of_le hdz hb1.size;clear hb1 x0 x3 xz) | (go_at_call 158;(with_reducible refine (Fz9.out _ (HH.out.below HB1.out)).mono ?_);rintro en w2 ⟨rfl,hb2⟩;have HB2:=Lib.hid (bel_step HB1.out hb2 HB1.out.size);have z3:=((bcell hb2).1 q 3 yz).trans y3;have zz:=Nat.lt_of_lt_of_le yz hb2.size;clear hb2) | (go_at_call 159;(with_reducible refine (RM.out _ (HH.out.below HB2.out)).mono ?_);rintro en w3 ⟨rfl,x2,hq2,ht2,hn2⟩;have HQ3:=Lib.hid hq2;have HT3:=Lib.hid ((Turn.below _ HB2.out).trans ht2);have HN3:=Lib.hid hn2;obtain ⟨_,_,v3,_,_,_⟩:=hq2.cells;have vz:=hq2.head.2.1;have vf:=hq2.head.2.2;clear hq2 ht2 hn2))
   have ST:=Lib.hid (HQ3.out.set (P':={ R with pages:=R.pages+1 }) 3 (.int .i64 ((R.pages:Int)+1)) rfl rfl rfl (fun _ _=>rfl))
   have HQ4:=Lib.hid ST.out.1
   have HT4:=Lib.hid (HT3.out.trans ST.out.2)
   clear ST HQ3 HT3 v3 vz vf y0 y3 yz yr yrz yd ydz z3 zz
   generalize (w3.setCell ⟨q,3,none⟩ (.int .i64 ((R.pages:Int)+1)))=W1 at *
   obtain ⟨A4,k4,v2,_,_,hown4,_⟩:=HQ4.out.frames
   dsimp only at v2 hown4
   have V2:=Lib.hid v2
   have HOWN:=Lib.hid hown4
   have vz:=HQ4.out.head.2.1
   have vf:=HQ4.out.head.2.2
   obtain ⟨i1,hi1,hz3,hz4,hz5⟩:=info_parts infoHeld
   clear hown4
   go_upto_region 14 with (at_builtin;(go_loud (refine wpList_append_src _ rfl (.tmp 61) (.tmp 65) 67 67 rfl 0 212 i1 _ 4 40 Tryz.underlying67 hi1 hz3 hz4 hz5 zeroCellsHeld (by decide) (.slice A4 R.ring.length k4) R.ring.length (hdCells R.ring) rfl (HOWN.out.alloc _) (.slice (some ⟨_,0,none⟩) 1 1) 1 (hdC ⟨R.pages,S,0,true⟩) rfl (Src.ofSlice _ Tryz.underlying67 ⟨_,0,none⟩ 1 1 (hdC ⟨R.pages,S,0,true⟩) rfl (World.news_of_block (heap_alloc_new _ _)) (hdC_one _)) G1.out G2.out (Nat.zero_le _) ?_));intro v7 w7 hown7 hg7 _ hat7;obtain ⟨A7,k7,rfl,_⟩:=own_form hown7;have AR:=Lib.hid (HQ4.out.appRing (P':={ R with pages:=R.pages+1,ring:=R.ring++[⟨R.pages,S,0,true⟩] }) V2.out ((Below.refl _ _).alloc (Nat.le_refl _) _) hown7 hg7 hat7 rfl rfl rfl (fun _ _=>rfl));have g2:=AR.out.1.1;have gz:=AR.out.1.2.1;have gf:=AR.out.1.2.2;clear hown7 hg7 hat7)
   obtain ⟨k',q5,t5⟩:=AR.out.2
   have HQ5:=Lib.hid q5
   have HT5:=Lib.hid (HT4.out.trans t5)
   clear q5 t5 AR g2 gz gf HQ4 HT4 V2 HOWN v2 vz vf
   generalize (w7.setCell ⟨q,2,none⟩ (.slice A7 (R.ring.length+1) k7))=W2 at *
   obtain ⟨A8,k8,v4,_,hown8,_⟩:=HQ5.out.list
   dsimp only at v4 hown8
   have V4:=Lib.hid v4
   have HOWN:=Lib.hid hown8
   have vz:=HQ5.out.head.2.1
   have vf:=HQ5.out.head.2.2
   obtain ⟨j1,hj1,hy3,hy4,hy5⟩:=info_parts infoInt
   have tl:x2.T.length≤1000000:=by have:=HN3.out;have:=TL.out;omega
   have G3:=Lib.hid (show x2.T.length+1≤maxLen by unfold maxLen;omega)
   have G4:=Lib.hid (show (x2.T.length+1)*8≤140737488355328 by omega)
   clear hown8 tl
   go_wp2_with (at_builtin;(go_loud (refine wpList_append_src _ rfl (.tmp 73) (.tmp 75) 43 43 rfl 0 3 j1 _ 1 8 Tryz.underlying43 hj1 hy3 hy4 hy5 zeroCellsInt (by decide) (.slice A8 x2.T.length k8) x2.T.length (natVs x2.T) rfl (HOWN.out.alloc _) (.slice (some ⟨_,0,none⟩) 1 1) 1 [.int .i64 R.pages] rfl (Src.ofSlice _ Tryz.underlying43 ⟨_,0,none⟩ 1 1 [.int .i64 R.pages] rfl (World.news_of_block (heap_alloc_new _ _)) (by simp [Value.oneCell'])) G3.out G4.out (Nat.zero_le _) ?_));intro v9 w9 hown9 hg9 _ hat9;obtain ⟨A9,k9,rfl,_⟩:=own_form hown9;have AR:=Lib.hid (HQ5.out.appList (P':={ R with pages:=R.pages+1,ring:=R.ring++[⟨R.pages,S,0,true⟩],turned:=insN R.pages R.turned }) V4.out ((Below.refl _ _).alloc (Nat.le_refl _) _) hown9 hg9 hat9 rfl rfl rfl (fun _ _=>rfl));have g2:=AR.out.1.1;have gz:=AR.out.1.2.1;have gf:=AR.out.1.2.2;clear hown9 hg9 hat9)
   go_ret2
   obtain ⟨k',q6,t6⟩:=AR.out.2
   exact ⟨rfl,_,q6,HT5.out.trans t6,by have:=HN3.out;simp;omega⟩
  ·have HG2:=Lib.hid (HG.out.trans (if_neg hE0))
   have HT2:Hid (P.allocT=0):=by have:=HT.out;rw [HA2.out,HG2.out,if_neg hE0] at this;exact this
   rw [HA2.out,HG2.out,HT2.out]
   clear HG HT RO RS
   go_enter Tryz.func79,Tryz.ntmps79
   go_wp2_with (first | (go_at_call 66;(with_reducible refine (SB.out _).mono ?_);rintro en w1 ⟨rfl,hb1⟩;have HB1:=Lib.hid hb1;have y0:=((bcell hb1).1 q 0 xz).trans x0;have y3:=((bcell hb1).1 q 3 xz).trans x3;have yz:=Nat.lt_of_lt_of_le xz hb1.size;have yr:=((bcell hb1).1 r 0 hrz).trans hrd;have yrz:=Nat.lt_of_lt_of_le hrz hb1.size;have yd:=((bcell hb1).1 rd 4 hdz).trans hdd;have ydz:=Nat.lt_of_lt_of_le hdz hb1.size;clear hb1 x0 x3 xz) | (go_at_call 158;(with_reducible refine (Fz9.out _ (HH.out.below HB1.out)).mono ?_);rintro en w2 ⟨rfl,hb2⟩;have HB2:=Lib.hid (bel_step HB1.out hb2 HB1.out.size);have z3:=((bcell hb2).1 q 3 yz).trans y3;have zz:=Nat.lt_of_lt_of_le yz hb2.size;clear hb2) | (go_at_call 159;(with_reducible refine (RM.out _ (HH.out.below HB2.out)).mono ?_);rintro en w3 ⟨rfl,x2,hq2,ht2,hn2⟩))
   go_ret2
   exact ⟨rfl,x2,hq2,(Turn.below _ HB2.out).trans ht2,by omega⟩
end Go.Proofs.YtjihboddejaelaaGreat
namespace Go.Proofs.YtjihboddejaelaaGreat
open Go.RowKit
open Go.BigFrame
theorem reuse_cases (P:Pl):(∃ e:Int,¬ e=0∧P.linkV P.free = .tuple #[.int .i64 (-1),.int .i64 e]∧P.reuse=((P.get P.free).1,e)) ∨
 (∃ m:Nat,m≤2147483647∧P.linkV P.free = .tuple #[.int .i64 m,.int .i64 0]∧(P.get P.free).2=0 ∧
   P.reuse=if ((P.get P.free).1.setFree m).2=0 then ((P.get P.free).1.setFree m).1.put P.free blankS else (P.get P.free).1.setFree m):=by
 by_cases hE:(P.get P.free).2=0
 ·have ht:P.text P.free=(P.get P.free).1.lastF.s:=if_pos hE
  cases ho:openP (P.get P.free).1.lastF.s with
  | none =>
    refine .inl ⟨4,by decide, ?_, ?_⟩
    ·unfold Pl.linkV;rw [if_pos hE,ht,ho]
    ·unfold Pl.reuse;rw [if_pos hE,ho]
  | some pg =>
    refine .inr ⟨pg.2.1,open_link ho, ?_,hE, ?_⟩
    ·unfold Pl.linkV;rw [if_pos hE,ht,ho]
    ·unfold Pl.reuse;rw [if_pos hE,ho]
 ·refine .inl ⟨(P.get P.free).2,hE,if_neg hE, ?_⟩
  unfold Pl.reuse;rw [if_neg hE]
set_option maxRecDepth 100000 in
set_option maxHeartbeats 6400000 in
theorem ref_reuse (rd r q:Nat) (x:Qx) (P:Pl) {mf:Nat} (B N:Bk) (w:World) (h:QM w rd r q x P) (hi:PIn mf P B N) (hr:Root N P.free) (hw:wt P+2≤60000) (hd:P.L.D.down=false) (hfit:Fit P.L.D 4) (hT:x.T.length≤900000) (hf:¬ P.free=0) :
 Calls Tryz.prog 79 #[.pointer (some ⟨q,0,none⟩)] w (QPost2 w rd r q x 2 P.alloc.1 (.tuple #[.int .i64 P.allocT,.int .i64 P.alloc.2])):=by
 have HH:=Lib.hid h
 have x0:=h.cells.1
 have xz:=h.head.2.1
 have hrd:=h.log.cells.1
 have hrz:=h.log.cells.2.2.2.2.2.1
 have hdd:w.cell? ⟨rd,4,none⟩=some (.bool false):=by have:=h.log.disk.downC;rw [hd] at this;exact this
 have hdz:rd<w.heap.size:=h.log.disk.cells.2.2.2
 have hR:=rootS_is hi hr hd
 have ok:=hi.ok
 have hlen:P.L.fs.length≤60000:=Nat.le_trans fs_wt (by omega)
 have e0:((P.free:Int) == 0)=false:=by rw [beq_eq_false_iff_ne];omega
 have Fz9:=Lib.hid (fun w1 (h1:QM w1 rd r q x P)=>ref_first rd r q x P w1 h1 ok hd (hfit.less (by omega)) (by omega) P.free hr.le hR)
 have SB:=Lib.hid (fun w1=>ref_SealF 3 0 none 0 w1)
 rw [show (((0:Nat)):Int)=0 from rfl,show (((3:Nat)):Int)=3 from rfl] at SB
 have LK:=Lib.hid (fun w1 (h1:QM w1 rd r q x P)=>ref_link rd r q x P P.free w1 h1 ok hd (hfit.less (by omega)) (by omega))
 have HA:Hid (P.alloc=P.reuse):=if_neg hf
 have HT:Hid (P.allocT=if P.reuse.2=0 then P.free else 0):=by
  have:P.allocN=P.free:=if_neg hf
  unfold Pl.allocT;rw [this,HA.out];exact Lib.hid rfl
 rw [HA.out]
 obtain ⟨g1,g2,g3⟩:=get_then hi hr (by omega) (P.free:Int)
 have hfree:(P.get P.free).1.free=P.free:=(get_same (P:=P) P.free).2.2.1
 obtain ⟨S,hS⟩:∃ S,blankS=S:=⟨_,rfl⟩
 obtain ⟨E3,hE3⟩:∃ E,sealE 3 0 []=E:=⟨_,rfl⟩
 have hS2:sealS 3 0 []=S:=hS
 rw [hS2,hE3] at SB
 have TL:=Lib.hid hT
 rcases reuse_cases P with ⟨e,c1,c2,c3⟩ | ⟨m,c1,c2,c3,c4⟩
 ·rw [c2] at LK
  have HT2:Hid (P.allocT=0):=by have:=HT.out;rw [c3,if_neg c1] at this;exact this
  rw [c3,HT2.out]
  obtain ⟨P1,hP1⟩:∃ Q,(P.get P.free).1=Q:=⟨_,rfl⟩
  rw [hP1] at LK ⊢
  clear h hi hr hw hd hfit hT hf hR ok hlen HA HT g1 g2 g3 hfree hS hE3 hS2 c2 c3 hP1
  go_enter Tryz.func79,Tryz.ntmps79
  go_wp2_with (first | (go_at_call 66;(with_reducible refine (SB.out _).mono ?_);rintro en w1 ⟨rfl,hb1⟩;have HB1:=Lib.hid hb1;have y0:=((bcell hb1).1 q 0 xz).trans x0;have yz:=Nat.lt_of_lt_of_le xz hb1.size;have yr:=((bcell hb1).1 r 0 hrz).trans hrd;have yrz:=Nat.lt_of_lt_of_le hrz hb1.size;have yd:=((bcell hb1).1 rd 4 hdz).trans hdd;have ydz:=Nat.lt_of_lt_of_le hdz hb1.size;clear hb1) | (go_at_call 158;(with_reducible refine (Fz9.out _ (HH.out.below HB1.out)).mono ?_);rintro en w2 ⟨rfl,hb2⟩;have HB2:=Lib.hid (bel_step HB1.out hb2 HB1.out.size);clear hb2) | (go_at_call 160;(with_reducible refine (LK.out _ (HH.out.below HB2.out)).mono ?_);rintro en w3 ⟨rfl,x3,hq3,ht3,hn3⟩;have HQ3:=Lib.hid hq3;have HT3:=Lib.hid ((Turn.below _ HB2.out).trans ht3);have HN3:=Lib.hid hn3;clear hq3 ht3 hn3))
  go_ret2
  exact ⟨rfl,x3,HQ3.out,HT3.out,by have:=HN3.out;omega⟩
 ·rw [c2] at LK
  have ok1:=g1.ok
  have up1:=get_up hd c3
  have fit1:Fit (P.get P.free).1.L.D 3:=get_fit (k:=3) hfit P.free
  have len1:(P.get P.free).1.L.fs.length≤60000:=Nat.le_trans fs_wt (by omega)
  obtain ⟨N2,i2,r2,w2,_⟩:=setFree_then g1 g2 (by omega) c1
  have ok2:=i2.ok
  have fit2:Fit ((P.get P.free).1.setFree m).1.L.D 1:=setFree_fit fit1 m
  have len2:((P.get P.free).1.setFree m).1.L.fs.length≤60001:=Nat.le_trans fs_wt (by omega)
  have up2:=fun h2=>setFree_up up1 (n:=m) h2
  have SF:=Lib.hid (fun w1 x1 (h1:QM w1 rd r q x1 (P.get P.free).1) (ht:x1.T.length≤1000000)=>ref_setFree rd r q x1 (P.get P.free).1 m c1 w1 h1 ok1 up1 (fit1.less (by omega)) (by omega) ht P.free hr.le (fun hE=>root_get g1 (l:=P.free) (by rw [← hfree];exact g2) (by omega) hE))
  rw [hS] at c4
  obtain ⟨P1,hP1⟩:∃ Q,(P.get P.free).1=Q:=⟨_,rfl⟩
  rw [hP1] at LK SF c4 fit2 len2 up2 ok2
  obtain ⟨P2,hP2⟩:∃ Q,(P1.setFree m).1=Q:=⟨_,rfl⟩
  obtain ⟨E2,hE2⟩:∃ Q,(P1.setFree m).2=Q:=⟨_,rfl⟩
  have hPE:P1.setFree m=(P2,E2):=by rw [← hP2,← hE2]
  rw [hP2,hE2] at SF
  rw [hP2] at fit2 len2 ok2
  rw [hPE] at c4 up2
  dsimp only at c4 up2
  have C4:=Lib.hid c4
  have C1:=Lib.hid c1
  by_cases h2:E2=0
  ·subst h2
   have c5:=C4.out.trans (if_pos rfl)
   have up3:=up2 rfl
   have PT:=Lib.hid (fun w1 x1 (h1:QM w1 rd r q x1 P2) (ht:x1.T.length≤1000000)=>ref_put rd r q x1 P2 P.free S w1 h1 ok2 up3 fit2 (by omega) ht)
   obtain ⟨P3,hP3⟩:∃ Q,(P2.put P.free S).1=Q:=⟨_,rfl⟩
   obtain ⟨E4,hE4⟩:∃ Q,(P2.put P.free S).2=Q:=⟨_,rfl⟩
   have hPE3:P2.put P.free S=(P3,E4):=by rw [← hP3,← hE4]
   rw [hP3,hE4] at PT
   rw [hPE3] at c5
   by_cases h3:E4=0
   ·subst h3
    have HT2:Hid (P.allocT=P.free):=by have:=HT.out;rw [c5] at this;exact this
    rw [c5,HT2.out]
    clear h hi hr hw hd hfit hT hf hR ok hlen HA HT g1 g2 g3 hfree hS hE3 hS2 c1 c2 c3 c4 c5 hP1 hP2 hE2 hPE C4 hP3 hE4 hPE3 up1 up2 up3 fit1 fit2 len1 len2 ok1 ok2 i2 r2 w2
    go_enter Tryz.func79,Tryz.ntmps79
    go_wp2_with (first | (go_at_call 66;(with_reducible refine (SB.out _).mono ?_);rintro en w1 ⟨rfl,hb1⟩;have HB1:=Lib.hid hb1;have y0:=((bcell hb1).1 q 0 xz).trans x0;have yz:=Nat.lt_of_lt_of_le xz hb1.size;have yr:=((bcell hb1).1 r 0 hrz).trans hrd;have yrz:=Nat.lt_of_lt_of_le hrz hb1.size;have yd:=((bcell hb1).1 rd 4 hdz).trans hdd;have ydz:=Nat.lt_of_lt_of_le hdz hb1.size;clear hb1) | (go_at_call 158;(with_reducible refine (Fz9.out _ (HH.out.below HB1.out)).mono ?_);rintro en w2 ⟨rfl,hb2⟩;have HB2:=Lib.hid (bel_step HB1.out hb2 HB1.out.size);clear hb2) | (go_at_call 160;(with_reducible refine (LK.out _ (HH.out.below HB2.out)).mono ?_);rintro en w3 ⟨rfl,x3,hq3,ht3,hn3⟩;have HQ3:=Lib.hid hq3;have HT3:=Lib.hid ((Turn.below _ HB2.out).trans ht3);have HN3:=Lib.hid hn3;clear hq3 ht3 hn3) | (go_at_call 161;(with_reducible refine (SF.out _ _ HQ3.out (by have:=HN3.out;have:=TL.out;omega)).mono ?_);rintro en w4 ⟨rfl,x4,hq4,ht4,hn4⟩;have HQ4:=Lib.hid hq4;have HT4:=Lib.hid (HT3.out.trans ht4);have HN4:=Lib.hid (show x4.T.length≤x.T.length+1 by have:=HN3.out;omega);clear hq4 ht4 hn4) | (go_at_call 156;(with_reducible refine (PT.out _ _ HQ4.out (by have:=HN4.out;have:=TL.out;omega)).mono ?_);rintro en w5 ⟨rfl,x5,hq5,ht5,hn5⟩;have HQ5:=Lib.hid hq5;have HT5:=Lib.hid (HT4.out.trans ht5);have HN5:=Lib.hid (show x5.T.length≤x.T.length+2 by have:=HN4.out;omega);clear hq5 ht5 hn5))
    go_ret2
    exact ⟨rfl,x5,HQ5.out,HT5.out,by have:=HN5.out;omega⟩
   ·have HT2:Hid (P.allocT=0):=by have:=HT.out;rw [c5,if_neg h3] at this;exact this
    rw [c5,HT2.out]
    clear h hi hr hw hd hfit hT hf hR ok hlen HA HT g1 g2 g3 hfree hS hE3 hS2 c1 c2 c3 c4 c5 hP1 hP2 hE2 hPE C4 hP3 hE4 hPE3 up1 up2 up3 fit1 fit2 len1 len2 ok1 ok2 i2 r2 w2
    go_enter Tryz.func79,Tryz.ntmps79
    go_wp2_with (first | (go_at_call 66;(with_reducible refine (SB.out _).mono ?_);rintro en w1 ⟨rfl,hb1⟩;have HB1:=Lib.hid hb1;have y0:=((bcell hb1).1 q 0 xz).trans x0;have yz:=Nat.lt_of_lt_of_le xz hb1.size;have yr:=((bcell hb1).1 r 0 hrz).trans hrd;have yrz:=Nat.lt_of_lt_of_le hrz hb1.size;have yd:=((bcell hb1).1 rd 4 hdz).trans hdd;have ydz:=Nat.lt_of_lt_of_le hdz hb1.size;clear hb1) | (go_at_call 158;(with_reducible refine (Fz9.out _ (HH.out.below HB1.out)).mono ?_);rintro en w2 ⟨rfl,hb2⟩;have HB2:=Lib.hid (bel_step HB1.out hb2 HB1.out.size);clear hb2) | (go_at_call 160;(with_reducible refine (LK.out _ (HH.out.below HB2.out)).mono ?_);rintro en w3 ⟨rfl,x3,hq3,ht3,hn3⟩;have HQ3:=Lib.hid hq3;have HT3:=Lib.hid ((Turn.below _ HB2.out).trans ht3);have HN3:=Lib.hid hn3;clear hq3 ht3 hn3) | (go_at_call 161;(with_reducible refine (SF.out _ _ HQ3.out (by have:=HN3.out;have:=TL.out;omega)).mono ?_);rintro en w4 ⟨rfl,x4,hq4,ht4,hn4⟩;have HQ4:=Lib.hid hq4;have HT4:=Lib.hid (HT3.out.trans ht4);have HN4:=Lib.hid (show x4.T.length≤x.T.length+1 by have:=HN3.out;omega);clear hq4 ht4 hn4) | (go_at_call 156;(with_reducible refine (PT.out _ _ HQ4.out (by have:=HN4.out;have:=TL.out;omega)).mono ?_);rintro en w5 ⟨rfl,x5,hq5,ht5,hn5⟩;have HQ5:=Lib.hid hq5;have HT5:=Lib.hid (HT4.out.trans ht5);have HN5:=Lib.hid (show x5.T.length≤x.T.length+2 by have:=HN4.out;omega);clear hq5 ht5 hn5))
    go_ret2
    exact ⟨rfl,x5,HQ5.out,HT5.out,by have:=HN5.out;omega⟩
  ·have c5:=C4.out.trans (if_neg h2)
   have HT2:Hid (P.allocT=0):=by have:=HT.out;rw [c5,if_neg h2] at this;exact this
   rw [c5,HT2.out]
   clear h hi hr hw hd hfit hT hf hR ok hlen HA HT g1 g2 g3 hfree hS hE3 hS2 c1 c2 c3 c4 c5 hP1 hP2 hE2 hPE C4 up1 up2 fit1 fit2 len1 len2 ok1 ok2 i2 r2 w2
   go_enter Tryz.func79,Tryz.ntmps79
   go_wp2_with (first | (go_at_call 66;(with_reducible refine (SB.out _).mono ?_);rintro en w1 ⟨rfl,hb1⟩;have HB1:=Lib.hid hb1;have y0:=((bcell hb1).1 q 0 xz).trans x0;have yz:=Nat.lt_of_lt_of_le xz hb1.size;have yr:=((bcell hb1).1 r 0 hrz).trans hrd;have yrz:=Nat.lt_of_lt_of_le hrz hb1.size;have yd:=((bcell hb1).1 rd 4 hdz).trans hdd;have ydz:=Nat.lt_of_lt_of_le hdz hb1.size;clear hb1) | (go_at_call 158;(with_reducible refine (Fz9.out _ (HH.out.below HB1.out)).mono ?_);rintro en w2 ⟨rfl,hb2⟩;have HB2:=Lib.hid (bel_step HB1.out hb2 HB1.out.size);clear hb2) | (go_at_call 160;(with_reducible refine (LK.out _ (HH.out.below HB2.out)).mono ?_);rintro en w3 ⟨rfl,x3,hq3,ht3,hn3⟩;have HQ3:=Lib.hid hq3;have HT3:=Lib.hid ((Turn.below _ HB2.out).trans ht3);have HN3:=Lib.hid hn3;clear hq3 ht3 hn3) | (go_at_call 161;(with_reducible refine (SF.out _ _ HQ3.out (by have:=HN3.out;have:=TL.out;omega)).mono ?_);rintro en w4 ⟨rfl,x4,hq4,ht4,hn4⟩;have HQ4:=Lib.hid hq4;have HT4:=Lib.hid (HT3.out.trans ht4);have HN4:=Lib.hid (show x4.T.length≤x.T.length+1 by have:=HN3.out;omega);clear hq4 ht4 hn4))
   go_ret2
   exact ⟨rfl,x4,HQ4.out,HT4.out,by have:=HN4.out;omega⟩
theorem ref_Alloc (rd r q:Nat) (x:Qx) (P:Pl) {mf:Nat} (B N:Bk) (w:World) (h:QM w rd r q x P) (hi:PIn mf P B N) (hr:Root N P.free) (hw:wt P+2≤60000) (hd:P.L.D.down=false) (hfit:Fit P.L.D 4) (hT:x.T.length≤900000) :
 Calls Tryz.prog 79 #[.pointer (some ⟨q,0,none⟩)] w (QPost2 w rd r q x 2 P.alloc.1 (.tuple #[.int .i64 P.allocT,.int .i64 P.alloc.2])):=by
 by_cases hf:P.free=0
 ·exact ref_grow rd r q x P w h hi.ok hd (hfit.less (by omega)) (Nat.le_trans fs_wt (by omega)) (by omega) (rootS_is hi hr hd) hf
 ·exact ref_reuse rd r q x P B N w h hi hr hw hd hfit hT hf
set_option maxRecDepth 100000 in
set_option maxHeartbeats 6400000 in
theorem ref_Free (rd r q:Nat) (x:Qx) (P:Pl) {mf:Nat} (B N:Bk) (n:Int) (w:World) (h:QM w rd r q x P) (hi:PIn mf P B N) (hr:Root N P.free) (hw:wt P+2≤60000) (hd:P.L.D.down=false) (hfit:Fit P.L.D 4) (hT:x.T.length≤900000) :
 Calls Tryz.prog 81 #[.pointer (some ⟨q,0,none⟩),.int .i64 n] w (QPost2 w rd r q x 2 (P.freeP n).1 (.int .i64 (P.freeP n).2)):=by
 have HH:=Lib.hid h
 by_cases hx0:n=0
 ·have HE:Hid (P.freeP n=(P,1)):=if_pos hx0
  rw [HE.out]
  subst hx0
  clear h hi hr hw hd hfit hT
  go_enter Tryz.func81,Tryz.ntmps81
  go_wp2_with fail
  go_ret
  exact QPost2.refl HH.out 2
 ·have HE:Hid (P.freeP n=if (P.put n (sealS 3 P.free [])).2=0 then (P.put n (sealS 3 P.free [])).1.setFree n.toNat else P.put n (sealS 3 P.free [])):=if_neg hx0
  have e0:(n == 0)=false:=beq_eq_false_iff_ne.2 hx0
  have hlen:P.L.fs.length≤60000:=Nat.le_trans fs_wt (by omega)
  have Fz9:=Lib.hid (fun w1 (h1:QM w1 rd r q x P)=>ref_first rd r q x P w1 h1 hi.ok hd (hfit.less (by omega)) (by omega) P.free hr.le (rootS_is hi hr hd))
  have SB:=Lib.hid (fun w1=>ref_SealF 3 P.free none 0 w1)
  rw [show (((3:Nat)):Int)=3 from rfl] at SB
  have SS1:(sealS 3 P.free []).size=1024:=free_lenR hr.le
  have PT:=Lib.hid (fun w1 (h1:QM w1 rd r q x P)=>ref_put rd r q x P n (sealS 3 P.free []) w1 h1 hi.ok hd (hfit.less (by omega)) (by omega) (by omega))
  obtain ⟨N2,i2,r2,w2,n2⟩:=put_then hi hr (by omega) hx0 SS1
  have up2:=fun h2=>put_up hd (x:=n) (s:=sealS 3 P.free []) h2
  have fit2:Fit (P.put n (sealS 3 P.free [])).1.L.D 3:=put_fit (k:=3) hfit n _
  have ix:(P.put n (sealS 3 P.free [])).2=0→0≤n∧n<(P.pages:Int):=fun h2=>by
   have h3:(P.get n).2=0:=by
    unfold Pl.put at h2
    by_cases h4:(P.get n).2=0
    ·exact h4
    ·rw [if_neg h4] at h2;exact h2
   obtain ⟨F0,f,hF,hfx,i0,i1⟩:=get_last hi.ok h3
   exact ⟨i0,i1⟩
  have few:=hi.ok.few
  have TL:=Lib.hid hT
  obtain ⟨S,hS⟩:∃ S,sealS 3 P.free []=S:=⟨_,rfl⟩
  obtain ⟨E3,hE3⟩:∃ E,sealE 3 P.free []=E:=⟨_,rfl⟩
  rw [hS] at SB HE PT i2 r2 w2 up2 fit2 ix
  rw [hE3] at SB
  obtain ⟨R,hRR⟩:∃ R',(P.put n S).1=R':=⟨_,rfl⟩
  obtain ⟨E,hE⟩:∃ E,(P.put n S).2=E:=⟨_,rfl⟩
  have hPQ:P.put n S=(R,E):=by rw [← hRR,← hE]
  rw [hPQ] at HE PT i2 r2 w2 up2 fit2 ix
  dsimp only at HE PT i2 r2 w2 up2 fit2 ix
  by_cases hE0:E=0
  ·subst hE0
   have HE2:=Lib.hid (HE.out.trans (if_pos rfl))
   have ix:=ix rfl
   have up2:=up2 rfl
   obtain ⟨m,rfl⟩:∃ m:Nat,n=m:=⟨n.toNat,by omega⟩
   have SF:=Lib.hid (fun w1 x1 (h1:QM w1 rd r q x1 R) (ht:x1.T.length≤1000000)=>ref_setFree rd r q x1 R m (by omega) w1 h1 i2.ok up2 (fit2.less (by omega)) (Nat.le_trans fs_wt (by omega)) ht R.free r2.le (fun hE=>root_get i2 r2 (by omega) hE))
   rw [HE2.out,Int.toNat_natCast]
   clear h hi hr hw hd hfit hT hx0 hlen SS1 i2 r2 w2 n2 up2 fit2 ix few hS hE3 hRR hE hPQ HE
   go_enter Tryz.func81,Tryz.ntmps81
   go_wp2_with (first
    | (go_at_call 158;(with_reducible refine (Fz9.out _ HH.out).mono ?_);rintro en w1 ⟨rfl,hb1⟩;have HB1:=Lib.hid hb1;clear hb1)
    | (go_at_call 66;(with_reducible refine (SB.out _).mono ?_);rintro en w2 ⟨rfl,hb2⟩;have HB2:=Lib.hid (bel_step HB1.out hb2 HB1.out.size);clear hb2)
    | (go_at_call 156;(with_reducible refine (PT.out _ (HH.out.below HB2.out)).mono ?_);rintro en w3 ⟨rfl,x3,hq3,ht3,hn3⟩;have HQ3:=Lib.hid hq3;have HT3:=Lib.hid ((Turn.below _ HB2.out).trans ht3);have HN3:=Lib.hid hn3;clear hq3 ht3 hn3)
    | (go_at_call 161;(with_reducible refine (SF.out _ _ HQ3.out (by have:=HN3.out;have:=TL.out;omega)).mono ?_);rintro en w4 ⟨rfl,x4,hq4,ht4,hn4⟩))
   go_ret
   exact ⟨rfl,x4,hq4,HT3.out.trans ht4,by have:=HN3.out;omega⟩
  ·have HE2:=Lib.hid (HE.out.trans (if_neg hE0))
   rw [HE2.out]
   clear h hi hr hw hd hfit hT hx0 hlen SS1 i2 r2 w2 n2 up2 fit2 ix few hS hE3 hRR hE hPQ HE
   go_enter Tryz.func81,Tryz.ntmps81
   go_wp2_with (first
    | (go_at_call 158;(with_reducible refine (Fz9.out _ HH.out).mono ?_);rintro en w1 ⟨rfl,hb1⟩;have HB1:=Lib.hid hb1;clear hb1)
    | (go_at_call 66;(with_reducible refine (SB.out _).mono ?_);rintro en w2 ⟨rfl,hb2⟩;have HB2:=Lib.hid (bel_step HB1.out hb2 HB1.out.size);clear hb2)
    | (go_at_call 156;(with_reducible refine (PT.out _ (HH.out.below HB2.out)).mono ?_);rintro en w3 ⟨rfl,x3,hq3,ht3,hn3⟩))
   go_ret
   exact ⟨rfl,x3,hq3,(Turn.below _ HB2.out).trans ht3,by omega⟩
end Go.Proofs.YtjihboddejaelaaGreat
