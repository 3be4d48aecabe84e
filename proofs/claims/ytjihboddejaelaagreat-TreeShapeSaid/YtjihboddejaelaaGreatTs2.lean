/-
  put, done of package disk: rows of bytes of the disk's own.
-/
import Derived.Test.YtjihboddejaelaaGreatTs1
import Derived.Lib.BufferWrite
import Derived.Lib.SlBuf
import Derived.IntWalk
import Derived.WalkLawsBesides
import Derived.Deep.RegionLaw
import Derived.Deep.AppendLies
import Derived.Deep.DeepCutAuto
import Derived.Deep.RegionHeld3
set_option linter.unusedVariables false
set_option linter.unusedSimpArgs false
set_option maxRecDepth 100000
set_option maxHeartbeats 100000000
namespace Go.Proofs.YtjihboddejaelaaGreat
open Go.RowKit Go.BigFrame
structure Rst (w:World) (v:Value) (w':World) (v':Value):Prop where
 grown:w.grownBy w' v.ownBlock
 at_:v'.ownBlock=v.ownBlock∨∀ k,v'.ownBlock=some k→w.heap.size≤k
theorem Rst.refl (w:World) (v:Value):Rst w v w v:=⟨grownBy_refl _ _,.inl rfl⟩
theorem Rst.trans {w w1 w2:World} {v v1 v2:Value} (h:Rst w v w1 v1) (k:Rst w1 v1 w2 v2):Rst w v w2 v2:=by
 refine ⟨⟨k.grown.os.trans h.grown.os,k.grown.tape.trans h.grown.tape,k.grown.output.trans h.grown.output,Nat.le_trans h.grown.size k.grown.size,fun i hi hn=>?_⟩, ?_⟩
 ·refine (k.grown.block i (Nat.lt_of_lt_of_le hi h.grown.size) (fun e=>?_)).trans (h.grown.block i hi hn)
  rcases h.at_ with e2 | e2
  ·exact hn (e.trans e2)
  ·have:=e2 i e.symm;omega
 ·rcases k.at_ with e | e
  ·rcases h.at_ with e2 | e2
   ·exact .inl (e.trans e2)
   ·exact .inr (fun i hi=>e2 i (e ▸ hi))
  ·exact .inr (fun i hi=>Nat.le_trans h.grown.size (e i hi))
theorem Rst.below {w w1 w2:World} {v v1:Value} (h:Rst w v w1 v1) (hb:Below w1.heap.size w1 w2):Rst w v w2 v1 :=
 h.trans ⟨IH0 hb,.inl rfl⟩
theorem Rst.alloc {w w1:World} {v v1:Value} (h:Rst w v w1 v1) (o:Obj):Rst w v (w1.alloc o) v1:=h.below ((Below.refl _ _).alloc (Nat.le_refl _) _)
theorem Rst.app {w w1 w2:World} {v v1 v2:Value} (h:Rst w v w1 v1) (hg:w1.grownBy w2 v1.ownBlock) (hat:v2.ownBlock=v1.ownBlock∨v2.ownBlock=some w1.heap.size):Rst w v w2 v2 :=
 h.trans ⟨hg,hat.imp id fun e k hk=>by rw [e] at hk;cases hk;exact Nat.le_refl _⟩
theorem Rst.start {w w0:World} {v:Value} (hb:Below w0.heap.size w0 w) {w':World} {v':Value} (h:Rst w v w' v'):Rst w0 v w' v':=(Rst.refl w0 v).below hb |>.trans h
def WJ0 (w:World) (e:TypeId) (size:Nat) (v:Value) (n:Nat) (xs:List Value) (e':Ending) (w':World):Prop :=
 ∃ v',e' = .returned v'∧w'.ownsRow 0 e size v' n xs∧Rst w v w' v'
theorem QD0 (l:List UInt8):u8s l++[Value.int .u8 0]=u8s (l++[0]):=by rw [Ur];rfl
theorem JM0 {P:Program} {w:World} (dT sT ty elem:TypeId) (hu:P.underlying dT=some (.slice elem)) (hsz:(P.info? elem).map (·.size)=some 1)
 {e:TypeId} {A:Option Addr} {n c:Nat} {l:List UInt8} (hown:w.ownsRow 0 e 1 (.slice A n c) n (u8s l)) (dp:Option Addr) (dLen dCap off:Nat) (x:ByteArray)
 (hdp:0<x.size→dp=A.map (·.add (off*1))) (hle:x.size≤dLen) (hfit:off+x.size≤n) :
 ∃ w',(Builtin.copy_ #[dT,sT] ty #[.slice dp dLen dCap,.string x]).run P w = .ok (goInt x.size) w'∧w'.ownsRow 0 e 1 (.slice A n c) n (u8s (l.take off++x.data.toList++l.drop (off+x.size)))∧w.grownBy w' (Value.ownBlock (.slice A n c)):=by
 have hll:l.length=n:=by have:=hown.1;rw [Jy] at this;omega
 rcases Nat.eq_zero_or_pos x.size with h0 | h0
 ·have hr:=Lib.run_copy_empty_string (P:=P) w dT sT ty elem dp dLen dCap x hu (by rw [hsz];rfl) h0
  have hx:x.data.toList=[]:=List.eq_nil_of_length_eq_zero (by simpa using h0)
  refine ⟨w,by rw [h0];exact hr, ?_,grownBy_refl _ _⟩
  rw [hx,h0,List.append_nil,Nat.add_zero,List.take_append_drop];exact hown
 ·rcases hown.2 with ⟨h1,h2⟩ | ⟨g,cap,cur,hv,hbg,hg,hnc,hcm,hcs,htk⟩
  ·omega
  ·cases hv
   have hdp2:=hdp h0
   have ha:(⟨g,0,none⟩:Addr).add (off*1)=⟨g,off,none⟩:=by rw [addr_add];simp
   simp only [Option.map_some,ha] at hdp2;subst hdp2
   have hsz2:cur.size=c:=by rw [hcs];omega
   have hr:=Lib.run_copy_row_string (P:=P) w dT sT ty elem g off dLen dCap x cur e hu hsz hg hle (by omega)
   refine ⟨_,hr,⟨?_,.inr ⟨g,c,_,rfl,hbg,setRow_heap w g cur _ e (0,0) hg,hnc,hcm, ?_, ?_⟩⟩,⟨rfl,rfl,rfl,by simp [World.setRow],fun k _ hk=>setRow_other w g k _ (fun e=>hk (by rw [e];rfl))⟩⟩
   ·rw [Jy];simp;omega
   ·rw [List.size_toArray]
    simp only [List.length_append,List.length_take,List.length_drop,Array.length_toList,show (Lib.byteCells x.data.toList)=u8s x.data.toList from rfl,Jy,show x.data.size=x.size from rfl]
    omega
   ·have htk':cur.toList.take n=u8s l:=by simpa using htk
    have e1:cur.toList.take off=u8s (l.take off):=by
     have:(cur.toList.take n).take off=cur.toList.take off:=by rw [List.take_take,Nat.min_eq_left (by omega)]
     rw [← this,htk'];simp [u8s,List.map_take]
    have e2:(cur.toList.drop (off+x.size)).take (n-(off+x.size))=u8s (l.drop (off+x.size)):=by
     rw [← List.drop_take,htk'];simp [u8s,List.map_drop]
    have hx:x.data.toList.length=x.size:=by simp
    rw [Nat.mul_one]
    show (cur.toList.take off++u8s x.data.toList++cur.toList.drop (off+x.size)).take n=_
    rw [Ur,Ur,e1,← e2,List.take_append,List.take_of_length_le (by rw [List.length_append,Jy,Jy,List.length_take,hx];omega)]
    congr 2
    rw [List.length_append,Jy,Jy,List.length_take,hx];omega
theorem Wn {P:Program} {w:World} {ops:Array Oper} {rest:List Oper} {o:Oper} {a:Act} {Q:Exit→Act→World→Prop} (hgd:o.guard=none) (d s:Operand) (dT sT:TypeId)
 (ho:o.op = .call { callee:=.builtin .copy,args:=#[d,s],argTypes:=#[dT,sT] }) (elem:TypeId) (hu:P.underlying dT=some (.slice elem)) (hsz:(P.info? elem).map (·.size)=some 1)
 {e:TypeId} {A:Option Addr} {n c:Nat} {l:List UInt8} (hown:w.ownsRow 0 e 1 (.slice A n c) n (u8s l)) (dp:Option Addr) (dLen dCap off:Nat) (x:ByteArray)
 (hd:a.eval d = .slice dp dLen dCap) (hs:a.eval s = .string x)
 (hdp:0<x.size→dp=A.map (·.add (off*1))) (hle:x.size≤dLen) (hfit:off+x.size≤n)
 (h:∀ w',w'.ownsRow 0 e 1 (.slice A n c) n (u8s (l.take off++x.data.toList++l.drop (off+x.size)))→w.grownBy w' (Value.ownBlock (.slice A n c))→wpList P ops Q rest (a.put o.dst (goInt x.size)) w'):wpList P ops Q (o :: rest) a w:=by
 refine wpList_plain hgd fun K hK=>?_
 obtain ⟨w',hr,h1,h2⟩:=JM0 (P:=P) dT sT o.type elem hu hsz hown dp dLen dCap off x hdp hle hfit;unfold Oper.wp;simp [execOp,ho,resolve,invoke,builtin,hd,hs,hr,Result.andThen];exact hK _ _ (h w' h1 h2)
theorem RY0 (A:Option Addr) (m c a:Nat) (h:a≤m):∃ dp k,(∀ w:World,(Instr.sliceAt 39 (.slice A m c) (some (.int .i64 a)) none none).run Tryz.prog w = .ok (.slice dp (m-a) k) w)∧(a<c→dp=A.map (·.add (a*1))):=by
 have h1:(0:Int)≤(a:Int):=by omega
 have h2:(a:Int)≤(m:Int):=by omega
 refine ⟨if c=a then A else A.map (·.add (a*1)),c-a,fun w=>?_,fun h=>if_neg (by omega)⟩
 go_simp
def lenV:Value→Nat
 | .slice _ n _=>n
 | _=>0
theorem ZW0 (v:Value) (l:List UInt8) (a:Nat) (t:ByteArray) (w:World) (hown:w.ownsRow 0 5 1 v l.length (u8s l)) (hl:l.length≤67108864) (ha:a+t.size≤67108864) :
 Calls Tryz.prog 167 #[v,.int .i64 a,.string t] w (WJ0 w 5 1 v (EN0 l a t.data.toList).length (u8s (EN0 l a t.data.toList))):=by
 obtain ⟨i0,hi,hz0,hz1,hz2⟩:=info_parts infoByte;have HO:=Ac hown;clear hown;obtain ⟨N,hN⟩:∃ N,a+t.size=N:=⟨_,rfl⟩
 have hN1:N≤67108864:=by omega
 have hN2:(a:Int)+(t.size:Int)=(N:Int):=by omega
 have HN:=Ac hN;clear hN ha
 go_enter Tryz.func167,Tryz.ntmps167
 go_wp2_with fail
 go_loopw [0] (fun v0 wr=>∃ m:Nat,l.length≤m∧m≤max l.length N∧wr.ownsRow 0 5 1 v0 m (u8s (Dy l m))∧Rst w v wr v0) (fun v0 _=>N-lenV v0)
 case atStart=>exact ⟨l.length,Nat.le_refl _,by omega,by rw [DW0 (Nat.le_refl _)];exact HO.out,Rst.refl _ _⟩
 case round =>
  obtain ⟨m,hm1,hm2,ho,hr⟩:=hrel
  have hm3:m≤67108864:=by omega
  obtain ⟨A,c,rfl,hmc,_⟩:=BS.Dv ho;have HO1:=Ac ho;have HR:=Ac hr;clear HO ho hr
  by_cases hmN:m<N
  ·have G1:=Ac (show m+1≤maxLen by unfold maxLen;omega)
   have G2:=Ac (show (m+1)*1≤140737488355328 by omega)
   have HZ:=Ac (AG0 hm1 hmN)
   go_wp2_with ((at_builtin;refine Dh _ rfl (.tmp 14) (.tmp 15) 39 39 rfl (0) 5 i0 _ 1 1 Tryz.underlying39 hi hz0 hz1 hz2 Xf (by decide) (_) (m) (_) rfl (HO1.out.alloc _) (.slice (some ⟨_,0,none⟩) 1 1) (1) ([Value.int .u8 0]) rfl (Src.ofSlice _ Tryz.underlying39 ⟨_,0,none⟩ 1 1 ([Value.int .u8 0]) rfl (World.news_of_block (heap_alloc_new _ _)) (by simp [Value.oneCell'])) (G1.out) (G2.out) (Nat.zero_le _) ?_;intro v1 w1 hown1 hg1 _ hat1);have HO2:=Ac hown1;have HR2:=Ac ((HR.out.alloc _).app hg1 hat1);clear hown1 hg1 hat1)
   rw [QD0,HZ.out] at HO2;obtain ⟨A2,c2,hv2,_,_⟩:=BS.Dv HO2.out;have HV2:=Ac hv2;clear hv2
   go_roundw
   case rel=>exact ⟨m+1,by omega,by omega,HO2.out,HR2.out⟩
   case measure=>rw [HV2.out];simp [lenV];omega
  ·have ham:a≤m:=by have:=HN.out;omega
   obtain ⟨dp,k,hsl,hdp⟩:=RY0 A m c a ham;have HDP:=Ac hdp
   have HMX:=Ac (show m=max l.length N by omega)
   clear hdp
   go_wp2_with (with_reducible refine Wn rfl (.tmp 19) (.tmp 20) 39 9 rfl 5 Tryz.underlying39 (by kernel_rfl) HO1.out dp (m-a) k a t rfl rfl (fun h0=>HDP.out (by have:=HN.out;omega)) (by have:=HN.out;omega) (by have:=HN.out;omega) ?_;intro w1 hown1 hg1;have HO2:=Ac hown1;have HG2:=Ac hg1;clear hown1 hg1)
   have hx:t.data.toList.length=t.size:=by simp
   have hm:m=(EN0 l a t.data.toList).length:=by rw [Ox,hx,HMX.out,← HN.out]
   have hz:Dy l m=Dy l (a+t.data.toList.length):=by
    unfold Dy;rw [hx,HN.out,show m-l.length=N-l.length by have:=HMX.out;omega]
   go_ret
   refine ⟨_,rfl, ?_,HR.out.trans ⟨HG2.out,.inl rfl⟩⟩
   have:=HO2.out;rw [hz,← hx] at this;rw [← hm];exact this
theorem ET1 {v v1:Value} {n g:Nat} (h:∀ k,v.ownBlock=some k→k≠g) (hat:v1.ownBlock=v.ownBlock∨v1.ownBlock=some n) (hn:g<n):∀ k,v1.ownBlock=some k→k≠g:=fun k hk=>by
 rcases hat with e | e
 ·exact h k (e ▸ hk)
 ·rw [e] at hk;cases hk;omega
def SR0 (c:Ch):Value:=.agg #[.int .i64 c.file,.int .i64 c.at_,.string c.text,.bool c.cut]
def Ch.cells (c:Ch):List Value:=[.int .i64 c.file,.int .i64 c.at_,.string c.text,.bool c.cut]
theorem CR1 {w:World} {b:Nat} {e:TypeId} {A:Option Addr} {n c k:Nat} {l:List UInt8} (h:w.ownsRow b e 1 (.slice A n c) n (u8s l)) (hk:k≤n):w.ownsRow b e 1 (.slice A k c) k (u8s (l.take k)):=by
 have hl:l.length=n:=by have:=h.1;rw [Jy] at this;omega
 refine ⟨by rw [Jy,List.length_take];omega, ?_⟩
 rcases h.2 with ⟨h1,h2⟩ | ⟨g,cap,cur,hv,hbg,hg,hnc,hcm,hcs,htk⟩
 ·cases h1;have:k=0:=by omega
  subst this;exact .inl ⟨rfl,rfl⟩
 ·cases hv
  refine .inr ⟨g,c,cur,rfl,hbg,hg,by omega,hcm,hcs, ?_⟩
  have e:(cur.toList.take (n*1)).take (k*1)=cur.toList.take (k*1):=by rw [List.take_take,Nat.min_eq_left (by omega)]
  rw [← e,htk];simp [u8s,List.map_take]
theorem AG1 (A:Option Addr) (m c a:Nat) (h:a≤c) (w:World):(Instr.sliceAt 39 (.slice A m c) none (some (.int .i64 a)) none).run Tryz.prog w = .ok (.slice A a c) w:=by
 have h1:(0:Int)≤(a:Int):=by omega
 have h2:(a:Int)≤(c:Int):=by omega
 go_simp
theorem KS0 (c:Ch) (v:Value) (l:List UInt8) (w:World) (hown:w.ownsRow 0 5 1 v l.length (u8s l)) (hl:l.length≤67108864) (hc:c.fits) :
 Calls Tryz.prog 87 #[SR0 c,v] w (WJ0 w 5 1 v (c.done l).length (u8s (c.done l))):=by
 obtain ⟨i0,hi,hz0,hz1,hz2⟩:=info_parts infoByte;obtain ⟨f,a,t,b⟩:=c;obtain ⟨hf,ha,hat,hct⟩:=hc;simp only at hf ha hat hct
 show Calls Tryz.prog 87 #[.agg #[.int .i64 f,.int .i64 a,.string t,.bool b],v] w _
 have HO:=Ac hown;have HW:=Ac (Has.new w 156 #[.int .i64 f,.int .i64 a,.string t,.bool b]);have HB0:=Ac ((Below.refl w.heap.size w).alloc (Nat.le_refl _) (.cells #[.int .i64 f,.int .i64 a,.string t,.bool b] 156));clear hown
 cases b with
 | false =>
   have E:=Ac (show Ch.done ⟨f,a,t,false⟩ l=EN0 l a t.data.toList from rfl)
   have T:=Ac (fun w1 h1=>ZW0 v l a t w1 h1 hl hat)
   rw [E.out]
   go_enter Tryz.func87,Tryz.ntmps87
   go_wp2_with (go_at_call 167;(with_reducible refine (T.out _ (HO.out.alloc _)).mono ?_);rintro e w1 ⟨v1,rfl,hown1,hr1⟩)
   go_ret
   exact ⟨v1,rfl,hown1,hr1.start HB0.out⟩
 | true =>
   have E:=Ac (show Ch.done ⟨f,a,t,true⟩ l=(Dy l a).take a from rfl)
   rw [E.out];have HB:=Ac HB0.out.size
   go_enter Tryz.func87,Tryz.ntmps87
   go_wp2_with fail
   go_loopw [1] (fun v1 wr=>∃ m:Nat,l.length≤m∧m≤max l.length a∧wr.ownsRow 0 5 1 v1 m (u8s (Dy l m))∧Rst w v wr v1∧Has wr w.heap.size 156 #[.int .i64 f,.int .i64 a,.string t,.bool true]∧∀ k,v1.ownBlock=some k→k≠w.heap.size) (fun v1 _=>a-lenV v1)
   case atStart=>exact ⟨l.length,Nat.le_refl _,by omega,by rw [DW0 (Nat.le_refl _)];exact HO.out.alloc _,(Rst.refl _ _).alloc _,HW.out,fun k hk e=>by have:=(HO.out.lt k hk).2;omega⟩
   case round =>
    obtain ⟨m,hm1,hm2,ho,hr,hw,hne⟩:=hrel
    have hm3:m≤67108864:=by omega
    obtain ⟨A,c,rfl,hmc,_⟩:=BS.Dv ho;have HO1:=Ac ho;have HR:=Ac hr;have HWr:=Ac hw;have HNE:=Ac hne
    obtain ⟨c0,c1,c2⟩:=(show wr.cell? ⟨w.heap.size,1,none⟩=some (.int .i64 a)∧True∧True from ⟨hw.cell 1,trivial,trivial⟩)
    have cz:=hw.lt;clear HO ho hr hw hne HW HB0
    by_cases hmN:m<a
    ·have G1:=Ac (show m+1≤maxLen by unfold maxLen;omega)
     have G2:=Ac (show (m+1)*1≤140737488355328 by omega)
     have HZ:=Ac (AG0 hm1 hmN)
     go_wp2_with ((at_builtin;refine Dh _ rfl (.tmp 12) (.tmp 13) 39 39 rfl (0) 5 i0 _ 1 1 Tryz.underlying39 hi hz0 hz1 hz2 Xf (by decide) (_) (m) (_) rfl (HO1.out.alloc _) (.slice (some ⟨_,0,none⟩) 1 1) (1) ([Value.int .u8 0]) rfl (Src.ofSlice _ Tryz.underlying39 ⟨_,0,none⟩ 1 1 ([Value.int .u8 0]) rfl (World.news_of_block (heap_alloc_new _ _)) (by simp [Value.oneCell'])) (G1.out) (G2.out) (Nat.zero_le _) ?_;intro v1 w1 hown1 hg1 _ hat1);have HO2:=Ac hown1;have HR2:=Ac ((HR.out.alloc _).app hg1 hat1);have HW2:=Ac ((HWr.out.alloc _).grown hg1 (fun e=>HNE.out _ e.symm rfl));have HNE2:=Ac (ET1 HNE.out hat1 (by simp;omega));clear hown1 hg1 hat1)
     rw [QD0,HZ.out] at HO2;obtain ⟨A2,c2,hv2,_,_⟩:=BS.Dv HO2.out;have HV2:=Ac hv2;clear hv2
     go_roundw
     case rel=>exact ⟨m+1,by omega,by omega,HO2.out,HR2.out,HW2.out,HNE2.out⟩
     case measure=>rw [HV2.out];simp [lenV];omega
    ·have ham:a≤m:=by omega
     have hac:a≤c:=by omega
     have hsl:=fun w=>AG1 A m c a hac w
     have HMX:=Ac (show m=max l.length a by omega)
     go_wp2_with fail
     go_ret
     have ho:=CR1 HO1.out ham
     have hz:Dy l m=Dy l a:=by unfold Dy;rw [show m-l.length=a-l.length by have:=HMX.out;omega]
     have hl2:((Dy l a).take a).length=a:=by rw [List.length_take,Qy];omega
     rw [hz] at ho
     refine ⟨_,rfl, ?_,HR.out.trans ⟨grownBy_refl _ _,.inl ?_⟩⟩
     ·rw [hl2];exact ho
     ·cases A <;> rfl
def rowB (v:Value) (l:List UInt8):Row:=⟨v,5,1,l.length,u8s l⟩
def Gq (ws:List Ch):List Value:=ws.flatMap Ch.cells
def ZB0 (v:Value) (ws:List Ch):Row:=⟨v,156,4,ws.length,Gq ws⟩
def UI0 (fs:Int) (dn:Bool) (ct:Nat) (vl0 vs0 vl1 vs1 vw:Value):Array Value:=#[vl0,vs0,vl1,vs1,vw,.int .i64 fs,.bool dn,.int .i64 ct]
def GO0 (l0 s0 l1 s1:List UInt8) (ws:List Ch) (vl0 vs0 vl1 vs1 vw:Value):List Row:=[rowB vl0 l0,rowB vs0 s0,rowB vl1 l1,rowB vs1 s1,ZB0 vw ws]
def DPx (w:World) (b:List (Option Nat)) (g:Nat) (l0 s0 l1 s1:List UInt8) (ws:List Ch) (fs:Int) (dn:Bool) (ct:Nat):Prop :=
 ∃ vl0 vs0 vl1 vs1 vw,b=AQ0 g (GO0 l0 s0 l1 s1 ws vl0 vs0 vl1 vs1 vw)∧Ob w g 96 (UI0 fs dn ct vl0 vs0 vl1 vs1 vw) (GO0 l0 s0 l1 s1 ws vl0 vs0 vl1 vs1 vw)
def DP (w:World) (b:List (Option Nat)) (g:Nat) (D:Dk):Prop:=DPx w b g D.l0 (D.seen 0) D.l1 (D.seen 1) D.waits D.fails D.down D.count
def Qw (w:World) (b:List (Option Nat)) (g:Nat) (D':Dk) (r:Value) (e:Ending) (w':World):Prop :=
 e = .returned r∧∃ b',DP w' b' g D'∧Turn b b' w w'
section
variable {w w':World} {b:List (Option Nat)} {g:Nat} {D:Dk} {t:TypeId} {a0 a1 a2 a3 a4 a5 a6 a7:Value}
theorem Has.Le (h:Has w g t #[a0,a1,a2,a3,a4,a5,a6,a7]):w.cell? ⟨g,0,none⟩=some a0∧w.cell? ⟨g,1,none⟩=some a1∧w.cell? ⟨g,2,none⟩=some a2∧w.cell? ⟨g,3,none⟩=some a3∧w.cell? ⟨g,4,none⟩=some a4∧w.cell? ⟨g,5,none⟩=some a5∧w.cell? ⟨g,6,none⟩=some a6∧w.cell? ⟨g,7,none⟩=some a7 :=
 ⟨h.cell 0,h.cell 1,h.cell 2,h.cell 3,h.cell 4,h.cell 5,h.cell 6,h.cell 7⟩
theorem DP.below (h:DP w b g D) (hb:Below w.heap.size w w'):DP w' b g D:=by
 obtain ⟨v0,v1,v2,v3,v4,h1,h2⟩:=h;exact ⟨v0,v1,v2,v3,v4,h1,h2.below hb⟩
theorem DP.lt (h:DP w b g D) {k:Nat} (hk:some k∈b):k<w.heap.size:=by
 obtain ⟨v0,v1,v2,v3,v4,rfl,h2⟩:=h;exact h2.lt hk
end
theorem MB0 (g:Nat) (D:Dk) (b:List (Option Nat)) (w:World) (h:DP w b g D) (hok:D.ok) (hc:D.count≤4000000000000000000) :
 Calls Tryz.prog 189 #[.pointer (some ⟨g,0,none⟩)] w (Qw w b g D.turn (.int .i64 D.Ec)):=by
 obtain ⟨v0,v1,v2,v3,v4,rfl,hO⟩:=h;have HOb:=Ac hO;obtain ⟨c0,c1,c2,c3,c4,c5,c6,c7⟩:=hO.has.Le;have cf:=hO.has.frozen;have cz:=hO.has.lt;have hfl:=hok.fails;obtain ⟨l0,l1,ws,fs,dn,ct⟩:=D;simp only at c5 c6 c7 hfl hc;clear hO;obtain ⟨hf1,hf2⟩:=hfl
 cases dn with
 | true =>
   have E:=Ac (show Dk.turn ⟨l0,l1,ws,fs,true,ct⟩=⟨l0,l1,ws,fs,true,ct⟩∧Dk.Ec ⟨l0,l1,ws,fs,true,ct⟩=2 from ⟨if_pos (.inl rfl),if_pos (.inl rfl)⟩)
   rw [E.out.1,E.out.2]
   go_enter Tryz.func189,Tryz.ntmps189
   go_wp2_with fail
   go_ret
   exact ⟨rfl,_,⟨v0,v1,v2,v3,v4,rfl,HOb.out.set 6 (.bool true)⟩,Turn.set _ _ _ _ _⟩
 | false =>
   by_cases f0:fs=0
   ·have E:=Ac (show Dk.turn ⟨l0,l1,ws,fs,false,ct⟩=⟨l0,l1,ws,fs,true,ct⟩∧Dk.Ec ⟨l0,l1,ws,fs,false,ct⟩=2 from ⟨if_pos (.inr f0),if_pos (.inr f0)⟩)
    rw [E.out.1,E.out.2];subst f0
    go_enter Tryz.func189,Tryz.ntmps189
    go_wp2_with fail
    go_ret
    exact ⟨rfl,_,⟨v0,v1,v2,v3,v4,rfl,HOb.out.set 6 (.bool true)⟩,Turn.set _ _ _ _ _⟩
   ·have hst:¬ Dk.stops ⟨l0,l1,ws,fs,false,ct⟩:=fun h=>h.elim (fun h=>by cases h) f0
    have E:=Ac (show Dk.turn ⟨l0,l1,ws,fs,false,ct⟩=⟨l0,l1,ws,if 0<fs then fs-1 else fs,false,ct+1⟩∧Dk.Ec ⟨l0,l1,ws,fs,false,ct⟩=0 from ⟨if_neg hst,if_neg hst⟩)
    rw [E.out.1,E.out.2]
    have fe:(fs == 0)=false:=by rw [beq_eq_false_iff_ne];exact f0
    have ec:((ct+1:Nat):Int)=(ct:Int)+1:=by omega
    clear hst f0
    by_cases f1:0<fs
    ·rw [if_pos f1]
     go_enter Tryz.func189,Tryz.ntmps189
     go_wp2_with fail
     go_ret
     refine ⟨rfl,_,⟨v0,v1,v2,v3,v4,rfl, ?_⟩,(Turn.set _ _ 5 (.int .i64 (fs-1)) _).trans (Turn.set _ _ 7 (.int .i64 ((ct:Int)+1)) _)⟩
     exact (HOb.out.set 5 (.int .i64 (fs-1))).set 7 (.int .i64 ((ct:Int)+1))
    ·rw [if_neg f1]
     go_enter Tryz.func189,Tryz.ntmps189
     go_wp2_with fail
     go_ret
     refine ⟨rfl,_,⟨v0,v1,v2,v3,v4,rfl, ?_⟩,Turn.set _ _ 7 (.int .i64 ((ct:Int)+1)) _⟩
     exact HOb.out.set 7 (.int .i64 ((ct:Int)+1))
def EX0 (f a n:Int):Bool:=decide (Lr f a n)
theorem Qo {f a n:Int} (h:Lr f a n):EX0 f a n=true:=decide_eq_true h
theorem Jj {f a n:Int} (h:¬ Lr f a n):EX0 f a n=false:=decide_eq_false h
theorem Qi (f a n:Int) (w:World):Calls Tryz.prog 169 #[.int .i64 f,.int .i64 a,.int .i64 n] w fun e w'=>e = .returned (.bool (EX0 f a n))∧w=w':=by
 by_cases h0:0≤f
 rotate_left
 ·have E:=Ac (show EX0 f a n=false from Jj (fun h=>by obtain ⟨g0,g1,g2,g3,g4,g5⟩:=h;omega))
  go_enter Tryz.func169,Tryz.ntmps169
  go_wp2_with fail
  go_ret
  exact ⟨Qr (by rw [E.out]),rfl⟩
 by_cases h1:f<2
 rotate_left
 ·have E:=Ac (show EX0 f a n=false from Jj (fun h=>by obtain ⟨g0,g1,g2,g3,g4,g5⟩:=h;omega))
  go_enter Tryz.func169,Tryz.ntmps169
  go_wp2_with fail
  go_ret
  exact ⟨Qr (by rw [E.out]),rfl⟩
 by_cases h2:0≤a
 rotate_left
 ·have E:=Ac (show EX0 f a n=false from Jj (fun h=>by obtain ⟨g0,g1,g2,g3,g4,g5⟩:=h;omega))
  go_enter Tryz.func169,Tryz.ntmps169
  go_wp2_with fail
  go_ret
  exact ⟨Qr (by rw [E.out]),rfl⟩
 by_cases h3:0≤n
 rotate_left
 ·have E:=Ac (show EX0 f a n=false from Jj (fun h=>by obtain ⟨g0,g1,g2,g3,g4,g5⟩:=h;omega))
  go_enter Tryz.func169,Tryz.ntmps169
  go_wp2_with fail
  go_ret
  exact ⟨Qr (by rw [E.out]),rfl⟩
 by_cases h4:a≤67108864
 rotate_left
 ·have E:=Ac (show EX0 f a n=false from Jj (fun h=>by obtain ⟨g0,g1,g2,g3,g4,g5⟩:=h;omega))
  go_enter Tryz.func169,Tryz.ntmps169
  go_wp2_with fail
  go_ret
  exact ⟨Qr (by rw [E.out]),rfl⟩
 by_cases h5:n≤67108864-a
 rotate_left
 ·have E:=Ac (show EX0 f a n=false from Jj (fun h=>by obtain ⟨g0,g1,g2,g3,g4,g5⟩:=h;omega))
  go_enter Tryz.func169,Tryz.ntmps169
  go_wp2_with fail
  go_ret
  exact ⟨Qr (by rw [E.out]),rfl⟩
 have E:=Ac (show EX0 f a n=true from Qo ⟨h0,h1,h2,h3,h4,h5⟩)
 go_enter Tryz.func169,Tryz.ntmps169
 go_wp2_with fail
 go_ret
 exact ⟨Qr (by rw [E.out]),rfl⟩
theorem Bd {w:World} {b:Nat} {e:TypeId} {size:Nat} {v:Value} {n:Nat} {xs:List Value} (h:w.ownsRow b e size v n xs):∃ A c,v = .slice A n c∧n≤c:=by
 rcases h.2 with ⟨rfl,rfl⟩ | ⟨g,cap,cur,rfl,_,_,hn,_⟩
 ·exact ⟨none,0,rfl,Nat.le_refl _⟩
 ·exact ⟨_,_,rfl,hn⟩
theorem Ob.own {w:World} {g:Nat} {t:TypeId} {cs:Array Value} {rs:List Row} (h:Ob w g t cs rs) (i:Nat) {r:Row} (hr:rs[i]? = some r):w.ownsRow 0 r.e r.size r.v r.n r.xs:=h.rows r (List.mem_of_getElem? hr)
theorem slice_mid {w:World} {A:Option Addr} {m c a n:Nat} {l:List UInt8} (hown:w.ownsRow 0 5 1 (.slice A m c) m (u8s l)) (h:a+n≤m) :
 ∃ dp k,(∀ w1:World,(Instr.sliceAt 39 (.slice A m c) (some (.int .i64 a)) (some (.int .i64 ((a:Int)+(n:Int)))) none).run Tryz.prog w1 = .ok (.slice dp n k) w1)∧BS w dp n ((l.drop a).take n):=by
 obtain ⟨A',c',hv,hmc,hb⟩:=BS.Dv hown
 cases hv
 have h1:(0:Int)≤(a:Int):=by omega
 have h2:(a:Int)≤(a:Int)+(n:Int):=by omega
 have h3:(a:Int)+(n:Int)≤(c:Int):=by omega
 have e1:((a:Int)+(n:Int)).toNat-a=n:=by omega
 refine ⟨if c=a then A else A.map (·.add (a*1)),c-a,fun w1=>?_, ?_⟩
 ·go_simp
 ·have hl:=hb.1
  refine ⟨by rw [List.length_take,List.length_drop];omega,fun hn=>?_⟩
  obtain ⟨g,off,rfl,hg,hc⟩:=hb.2 (by omega)
  rw [if_neg (by omega)]
  refine ⟨g,off+a,by simp only [Option.map_some,addr_add];simp,hg,fun i v hv=>?_⟩
  rw [List.getElem?_take] at hv
  split at hv
  ·rw [List.getElem?_drop] at hv
   rw [Nat.add_assoc];exact hc _ _ hv
  ·cases hv
theorem DP.seen {w:World} {b:List (Option Nat)} {g:Nat} {D:Dk} (h:DP w b g D) (f:Nat) (hf:f<2):∃ v A c,w.cell? ⟨g,2*f+1,none⟩=some v∧v = .slice A (D.seen f).length c∧w.ownsRow 0 5 1 v (D.seen f).length (u8s (D.seen f)):=by
 obtain ⟨v0,v1,v2,v3,v4,rfl,hO⟩:=h;obtain ⟨c0,c1,c2,c3,c4,c5,c6,c7⟩:=hO.has.Le
 rcases (show f=0∨f=1 by omega) with rfl | rfl
 ·have ho:=hO.own 1 rfl
  obtain ⟨A,c,hv,_⟩:=Bd ho;exact ⟨v1,A,c,c1,hv,ho⟩
 ·have ho:=hO.own 3 rfl
  obtain ⟨A,c,hv,_⟩:=Bd ho;exact ⟨v3,A,c,c3,hv,ho⟩
theorem DP.down {w:World} {b:List (Option Nat)} {g:Nat} {D:Dk} (h:DP w b g D):w.cell? ⟨g,6,none⟩=some (.bool D.down)∧g<w.heap.size∧∀ i,w.frozen? ⟨g,i,none⟩=false:=by
 obtain ⟨v0,v1,v2,v3,v4,rfl,hO⟩:=h;exact ⟨hO.has.Le.2.2.2.2.2.2.1,hO.has.lt,hO.has.frozen⟩
theorem DN0 (g:Nat) (D:Dk) (b:List (Option Nat)) (f:Int) (w:World) (h:DP w b g D) (hok:D.ok):Calls Tryz.prog 94 #[.pointer (some ⟨g,0,none⟩),.int .i64 f] w fun e w'=>e = .returned (.tuple #[.int .i64 (D.Wl f),.int .i64 (D.Si f)])∧w=w':=by
 obtain ⟨c6,cz,_⟩:=h.down
 have R:=Ac (fun w1=>Qi f 0 0 w1)
 by_cases hf:0≤f∧f<2
 ·rw [Qo ⟨hf.1,hf.2,by omega,by omega,by omega,by omega⟩] at R
  obtain ⟨F,rfl⟩:∃ F:Nat,f=F:=⟨f.toNat,by omega⟩
  cases hd:D.down with
  | true =>
    have E:=Ac (show D.Wl F=0∧D.Si F=2 from ⟨if_neg (fun h=>by rw [hd] at h;exact absurd h.2.2 (by decide)),by unfold Dk.Si;rw [if_pos hf,if_pos hd]⟩)
    rw [E.out.1,E.out.2];rw [hd] at c6;clear hd
    go_enter Tryz.func94,Tryz.ntmps94
    go_wp2_with (go_at_call 169;(with_reducible refine (R.out _).mono ?_);rintro e w1 ⟨rfl,rfl⟩)
    go_ret2
    exact ⟨rfl,rfl⟩
  | false =>
    have E:=Ac (show D.Wl F=(D.seen F).length∧D.Si F=0 from ⟨if_pos ⟨hf.1,hf.2,hd⟩,by unfold Dk.Si;rw [if_pos hf,if_neg (by rw [hd];decide)]⟩)
    rw [E.out.1,E.out.2];rw [hd] at c6
    obtain ⟨v,A,c,cv,rfl,_⟩:=h.seen F (by omega)
    obtain ⟨S,hS⟩:∃ S,(D.seen F).length=S:=⟨_,rfl⟩;rw [hS] at cv ⊢;clear hd hS h;obtain ⟨hf1,hf2⟩:=hf
    rcases (show F=0∨F=1 by omega) with rfl | rfl
    all_goals
     (first | rw [show ((0:Nat):Int)=0 from rfl] at R | rw [show ((1:Nat):Int)=1 from rfl] at R)
     go_enter Tryz.func94,Tryz.ntmps94
     go_wp2_with (go_at_call 169;(with_reducible refine (R.out _).mono ?_);rintro e w1 ⟨rfl,rfl⟩)
     go_ret2
     exact ⟨rfl,rfl⟩
 ·rw [Jj (fun h=>hf ⟨h.1,h.2.1⟩)] at R
  have E:=Ac (show D.Wl f=0∧D.Si f=1 from ⟨if_neg (fun h=>hf ⟨h.1,h.2.1⟩),if_neg hf⟩)
  rw [E.out.1,E.out.2];clear hf
  go_enter Tryz.func94,Tryz.ntmps94
  go_wp2_with (go_at_call 169;(with_reducible refine (R.out _).mono ?_);rintro e w1 ⟨rfl,rfl⟩)
  go_ret2
  exact ⟨rfl,rfl⟩
theorem CJ0 (g:Nat) (D:Dk) (b:List (Option Nat)) (f a n:Int) (w:World) (h:DP w b g D) (hok:D.ok):Calls Tryz.prog 95 #[.pointer (some ⟨g,0,none⟩),.int .i64 f,.int .i64 a,.int .i64 n] w fun e w'=>e = .returned (.tuple #[.string (D.Gy f a n),.int .i64 (D.Ej f a n)])∧w=w':=by
 obtain ⟨c6,cz,_⟩:=h.down
 have R:=Ac (fun w1=>Qi f a n w1)
 by_cases hf:Lr f a n
 ·rw [Qo hf] at R
  cases hd:D.down with
  | true =>
    have E:=Ac (show D.Gy f a n=⟨#[]⟩∧D.Ej f a n=2 from ⟨if_neg (fun h=>by rw [hd] at h;exact absurd h.2.1 (by decide)),by unfold Dk.Ej;rw [if_pos hf,if_pos hd]⟩)
    rw [E.out.1,E.out.2];rw [hd] at c6;clear hd
    go_enter Tryz.func95,Tryz.ntmps95
    go_wp2_with (go_at_call 169;(with_reducible refine (R.out _).mono ?_);rintro e w1 ⟨rfl,rfl⟩)
    go_ret2
    exact ⟨rfl,rfl⟩
  | false =>
    obtain ⟨f1,f2,f3,f4,f5,f6⟩:=hf;have HF:Hid (Lr f a n):=⟨f1,f2,f3,f4,f5,f6⟩
    obtain ⟨F,rfl⟩:∃ F:Nat,f=F:=⟨f.toNat,by omega⟩
    obtain ⟨a,rfl⟩:∃ F:Nat,a=F:=⟨a.toNat,by omega⟩
    obtain ⟨n,rfl⟩:∃ F:Nat,n=F:=⟨n.toNat,by omega⟩
    rw [hd] at c6
    obtain ⟨v,A,c,cv,rfl,ho⟩:=h.seen F (by omega)
    have hsl:=hok.seen F;obtain ⟨S,hS⟩:∃ S,(D.seen F).length=S:=⟨_,rfl⟩
    by_cases hfit:a+n≤(D.seen F).length
    ·have E:=Ac (show D.Gy F a n=bsOf (((D.seen F).drop a).take n)∧D.Ej F a n=0 from ⟨if_pos ⟨HF.out,hd,by simpa using (by omega:(a:Int)+n≤(D.seen F).length)⟩,by unfold Dk.Ej;rw [if_pos HF.out,if_neg (by rw [hd];decide),if_pos (by simpa using (by omega:(a:Int)+n≤(D.seen F).length))]⟩)
     rw [E.out.1,E.out.2];obtain ⟨dp,k,hs,hb⟩:=slice_mid ho hfit;have hcv:=Wv (c:=k) hb;obtain ⟨T,hT⟩:∃ T,bsOf (((D.seen F).drop a).take n)=T:=⟨_,rfl⟩;rw [hT] at hcv ⊢;rw [hS] at cv hs hfit hsl;clear hd hS h ho hb hT
     rcases (show F=0∨F=1 by omega) with rfl | rfl
     all_goals
      (first | rw [show ((0:Nat):Int)=0 from rfl] at R | rw [show ((1:Nat):Int)=1 from rfl] at R)
      go_enter Tryz.func95,Tryz.ntmps95
      go_wp2_with (go_at_call 169;(with_reducible refine (R.out _).mono ?_);rintro e w1 ⟨rfl,rfl⟩)
      go_ret2
      exact ⟨rfl,rfl⟩
    ·have E:=Ac (show D.Gy F a n=⟨#[]⟩∧D.Ej F a n=3 from ⟨if_neg (fun h=>hfit (by have:=h.2.2;simp at this;omega)),by unfold Dk.Ej;rw [if_pos HF.out,if_neg (by rw [hd];decide),if_neg (fun h=>hfit (by simp at h;omega))]⟩)
     rw [E.out.1,E.out.2];rw [hS] at cv hfit hsl;clear hd hS h ho
     rcases (show F=0∨F=1 by omega) with rfl | rfl
     all_goals
      (first | rw [show ((0:Nat):Int)=0 from rfl] at R | rw [show ((1:Nat):Int)=1 from rfl] at R)
      go_enter Tryz.func95,Tryz.ntmps95
      go_wp2_with (go_at_call 169;(with_reducible refine (R.out _).mono ?_);rintro e w1 ⟨rfl,rfl⟩)
      go_ret2
      exact ⟨rfl,rfl⟩
 ·rw [Jj hf] at R
  have E:=Ac (show D.Gy f a n=⟨#[]⟩∧D.Ej f a n=1 from ⟨if_neg (fun h=>hf h.1),if_neg hf⟩)
  rw [E.out.1,E.out.2];clear hf
  go_enter Tryz.func95,Tryz.ntmps95
  go_wp2_with (go_at_call 169;(with_reducible refine (R.out _).mono ?_);rintro e w1 ⟨rfl,rfl⟩)
  go_ret2
  exact ⟨rfl,rfl⟩
def Dk.new:Dk:=⟨[],[],[], -1,false,0⟩
theorem Dk.EJ1:Dk.new.ok:=⟨by decide,by decide,(fun c hc=>by cases hc),by show -1≤(-1:Int)∧(-1:Int)≤9223372036854775807;omega⟩
def CZ1 (w:World) (e:Ending) (w':World):Prop:=∃ g b,e = .returned (.pointer (some ⟨g,0,none⟩))∧DP w' b g Dk.new∧Turn [] b w w'
theorem BO1 (w:World):Calls Tryz.prog 6 #[] w (CZ1 w):=by
 go_enter Tryz.func6,Tryz.ntmps6
 go_wp2_with fail
 go_ret
 refine ⟨_,_,rfl,⟨.slice none 0 0,.slice none 0 0,.slice none 0 0,.slice none 0 0,.slice none 0 0,rfl,⟨Has.new _ _ _,fun r hr=>?_, ?_⟩⟩, ?_⟩
 ·simp only [GO0,List.mem_cons,List.mem_nil_iff,or_false] at hr
  rcases hr with rfl | rfl | rfl | rfl | rfl <;> exact World.ownsRow_nil _ _ _ _
 ·simp [Apart,AQ0,GO0,rowB,ZB0,Value.ownBlock]
 ·refine ⟨rfl,rfl,rfl,by simp,fun k hk _=>Below.heap_alloc _ _ _ hk,fun k hk=>?_⟩
  simp [AQ0,GO0,rowB,ZB0,Value.ownBlock] at hk
  exact .inr (by omega)
theorem Hg {P:Program} {ops:Array Oper} {o:Oper} {a:Act} {w:World} {K:Act→World→Prop} {Q:Exit→Act→World→Prop} {E:Prop} (hgd:o.guard=none) (s x:Operand) (t tx:TypeId)
 (ho:o.op = .call { callee:=.builtin .append,args:=#[s,x],argTypes:=#[t,tx] })
 (base:Nat) (e:TypeId) (i:TypeInfo) (z:Value) (size bytes:Nat) (ht:P.underlying t=some (.slice e)) (hi:P.info? e=some i) (hz:i.zero=some z)
 (hsize:i.size=size) (hby:i.bytes=bytes) (hzs:z.cells.size=size) (hsz:0<size)
 (v:Value) (n:Nat) (xs:List Value) (hs:a.eval s=v) (hown:w.ownsRow base e size v n xs)
 (y:Value) (m:Nat) (news:List Value) (hx:a.eval x=y) (hsrc:Src P size tx y m news w)
 (h63:n+m≤maxLen) (hbytes:(n+m)*bytes≤140737488355328) (hbase:base≤w.heap.size)
 (h:∀ A c w',w'.ownsRow base e size (.slice A (n+m) c) (n+m) (xs++news)→w.grownBy w' v.ownBlock→(Value.ownBlock (.slice A (n+m) c)=v.ownBlock∨Value.ownBlock (.slice A (n+m) c)=some w.heap.size)→K (a.put o.dst (.slice A (n+m) c)) w') :
 if Region.wanted o (yielded ops a.tmps)=true then Oper.wp P o a w K Q else E:=by
 have hw:Region.wanted o (yielded ops a.tmps)=true:=by simp [Region.wanted,hgd]
 rw [if_pos hw]
 refine Xm w s x t tx ho base e i z size bytes ht hi hz hsize hby hzs hsz v n xs hs hown y m news hx hsrc h63 hbytes hbase fun v' w' h1 h2 _ h4=>?_
 obtain ⟨A,c,rfl,_⟩:=Bd h1;exact h A c w' h1 h2 h4
theorem VW0:(Tryz.prog.info? 156).map (fun i=>(i.zero,i.size,i.bytes))=some (some (.agg #[.int .i64 0,.int .i64 0,.string ⟨#[]⟩,.bool false]),4,40):=by kernel_rfl
theorem Ws:(Value.agg #[.int .i64 0,.int .i64 0,.string ⟨#[]⟩,.bool false]).cells.size=4:=by kernel_rfl
theorem Has.cells4 {w:World} {g:Nat} {t:TypeId} {a0 a1 a2 a3:Value} (h:Has w g t #[a0,a1,a2,a3]):w.cell? ⟨g,0,none⟩=some a0∧w.cell? ⟨g,1,none⟩=some a1∧w.cell? ⟨g,2,none⟩=some a2∧w.cell? ⟨g,3,none⟩=some a3 :=
 ⟨h.cell 0,h.cell 1,h.cell 2,h.cell 3⟩
theorem Tu (ws:List Ch) (c:Ch):Gq (ws++[c])=Gq ws++c.cells:=by simp [Gq]
theorem Has.turn {w w':World} {b b':List (Option Nat)} {g:Nat} {t:TypeId} {cs:Array Value} (h:Has w g t cs) (ht:Turn b b' w w') (hn:some g∉b):Has w' g t cs:=(ht.block g h.lt hn).trans h
theorem Turn.not {w w':World} {b b':List (Option Nat)} (ht:Turn b b' w w') {k:Nat} (hk:k<w.heap.size) (hn:some k∉b):some k∉b':=fun h=>by
 rcases ht.new k h with h2 | h2
 ·exact hn h2
 ·omega
theorem Wh (c:Ch):∀ u∈c.cells,u.oneCell'=true:=fun u hu=>by
 simp only [Ch.cells,List.mem_cons,List.not_mem_nil,or_false] at hu
 rcases hu with rfl | rfl | rfl | rfl <;> rfl
theorem EK1 {w w':World} {g:Nat} {l0 s0 l1 s1:List UInt8} {ws:List Ch} {fs:Int} {dn:Bool} {ct:Nat} {v0 v1 v2 v3 v4 v':Value} {c:Ch} {o:Obj}
 (h:Ob w g 96 (UI0 fs dn ct v0 v1 v2 v3 v4) (GO0 l0 s0 l1 s1 ws v0 v1 v2 v3 v4))
 (hown:w'.ownsRow 0 156 4 v' (ws.length+1) (Gq ws++c.cells)) (hg:(w.drew.alloc o).grownBy w' v4.ownBlock) (hat:v'.ownBlock=v4.ownBlock∨v'.ownBlock=some (w.drew.alloc o).heap.size) :
 Ob w' g 96 (UI0 fs dn ct v0 v1 v2 v3 v4) (GO0 l0 s0 l1 s1 (ws++[c]) v0 v1 v2 v3 v')∧Turn (AQ0 g (GO0 l0 s0 l1 s1 ws v0 v1 v2 v3 v4)) (AQ0 g (GO0 l0 s0 l1 s1 (ws++[c]) v0 v1 v2 v3 v')) w w':=by
 have hb:Below w.heap.size w (w.drew.alloc o):=(Below.refl _ _).drew.alloc (Nat.le_refl _) _
 have:=(h.below hb).row 4 (r:=ZB0 v4 ws) (r':=ZB0 v' (ws++[c])) rfl hg (by
  show w'.ownsRow 0 156 4 v' (ws++[c]).length (Gq (ws++[c]))
  rw [Tu,List.length_append];exact hown) (hat.imp id fun e k hk=>by
   have hk2:v'.ownBlock=some k:=hk
   rw [e] at hk2;cases hk2;exact Nat.le_refl _)
 exact ⟨this.1,(Turn.below _ hb).trans this.2⟩
theorem BU0 (g:Nat) (D:Dk) (b:List (Option Nat)) (c:Ch) (w:World) (h:DP w b g D) (hok:D.ok) (hct:D.count≤4000000000000000000) (hws:D.waits.length≤1000000000) (hc:c.fits) :
 Calls Tryz.prog 214 #[.pointer (some ⟨g,0,none⟩),SR0 c] w (Qw w b g (D.change c) (.int .i64 D.Ec)):=by
 obtain ⟨i0,hi,hz0,hz1,hz2⟩:=info_parts VW0;have HBX:=Ac (Has.new w 156 #[.int .i64 c.file,.int .i64 c.at_,.string c.text,.bool c.cut]);have HB0:=Ac ((Below.refl w.heap.size w).alloc (Nat.le_refl _) (.cells #[.int .i64 c.file,.int .i64 c.at_,.string c.text,.bool c.cut] 156))
 have NB:=Ac (show some w.heap.size∉b from fun h2=>by have:=h.lt h2;omega)
 have HH:=Ac h
 have T:=Ac (fun w1 (h1:DP w1 b g D)=>MB0 g D b w1 h1 hok hct)
 have FIT:=Ac hc;have OK:=Ac hok;have hcf:c.file<2:=hc.1
 show Calls Tryz.prog 214 #[.pointer (some ⟨g,0,none⟩),.agg #[.int .i64 c.file,.int .i64 c.at_,.string c.text,.bool c.cut]] w _
 clear h hok hc hct
 by_cases hst:D.stops
 ·have E:=Ac (show D.Ec=2∧D.change c=D.turn from ⟨if_pos hst,if_pos hst⟩)
  rw [E.out.2];rw [E.out.1] at T ⊢;clear hst
  go_enter Tryz.func214,Tryz.ntmps214
  go_wp2_with (go_at_call 189;(with_reducible refine (T.out _ (HH.out.below HB0.out)).mono ?_);rintro e w1 ⟨rfl,b1,hd1,ht1⟩)
  go_ret
  exact ⟨rfl,b1,hd1,(Turn.below b HB0.out).trans ht1⟩
 ·have E:=Ac (show D.Ec=0 from if_neg hst)
  have EC:=Ac (show D.change c={ D.turn with waits:=D.waits++[c] } from if_neg hst)
  have ET:=Ac (show D.turn={ D with fails:=if 0<D.fails then D.fails-1 else D.fails,count:=D.count+1 } from if_neg hst)
  have EW:=Ac (fun k=>Dk.Vt D c hst k)
  have EL:=Ac (show (D.change c).l0=D.l0∧(D.change c).l1=D.l1∧(D.change c).waits=D.waits++[c]∧(D.change c).fails=D.turn.fails∧(D.change c).down=D.turn.down∧(D.change c).count=D.turn.count by rw [EC.out];refine ⟨?_, ?_,rfl,rfl,rfl,rfl⟩ <;> (rw [ET.out]))
  rw [E.out] at T ⊢;clear hst
  go_enter Tryz.func214,Tryz.ntmps214
  go_upto_region 4 with (go_at_call 189;(with_reducible refine (T.out _ (HH.out.below HB0.out)).mono ?_);rintro e w1 ⟨rfl,b1,hd1,ht1⟩)
  have HD1:=Ac (show DPx w1 b1 g D.l0 (D.seen 0) D.l1 (D.seen 1) D.waits D.turn.fails D.turn.down D.turn.count by
   have h2:=hd1;rw [ET.out] at h2 ⊢
   exact h2)
  have HT1:=Ac ((Turn.below b HB0.out).trans ht1);have HX1:=Ac (HBX.out.turn ht1 NB.out)
  have NB1:=Ac (ht1.not (by simp) NB.out)
  clear hd1 ht1
  go_cut [3] (fun s3 wx=>s3 = .pointer (some ⟨w.heap.size,0,none⟩)∧∃ b2,DPx wx b2 g D.l0 (D.seen 0) D.l1 (D.seen 1) (D.waits++[c]) D.turn.fails D.turn.down D.turn.count∧Turn b b2 w wx∧Has wx w.heap.size 156 #[.int .i64 c.file,.int .i64 c.at_,.string c.text,.bool c.cut]∧some w.heap.size∉b2)
  case first =>
   obtain ⟨v0,v1,v2,v3,v4,rfl,hO⟩:=HD1.out;have HO:=Ac hO;obtain ⟨c0,c1,c2,c3,c4,c5,c6,c7⟩:=hO.has.Le;have cf:=hO.has.frozen;have cz:=hO.has.lt;obtain ⟨x0,x1,x2,x3⟩:=HX1.out.cells4;have xz:=HX1.out.lt;clear hO
   have G1:=Ac (show D.waits.length+1≤maxLen by unfold maxLen;omega)
   have G2:=Ac (show (D.waits.length+1)*40≤140737488355328 by omega)
   go_region_law
    (refine Hg (by rfl) _ _ _ _ (by rfl) 0 156 i0 _ 4 40 Tryz.underlying94 hi hz0 hz1 hz2 Ws (by omega) v4 D.waits.length (Gq D.waits) (by rfl) ((HO.out.own 4 rfl).drew.alloc _) _ 1 c.cells (by rfl) (Src.ofSlice _ Tryz.underlying94 ⟨_,0,none⟩ 1 1 c.cells rfl (World.news_of_block (heap_alloc_new _ _)) (Wh c)) G1.out G2.out (Nat.zero_le _) ?_;intro A5 k5 w5 hown5 hgrow hat;have HR:=Ac (EK1 HO.out hown5 hgrow hat);have gf5:=HR.out.1.has.frozen;have gc5:=HR.out.1.has.Le.2.2.2.2.1;have gz5:=HR.out.1.has.lt)
   all_goals
    go_wp2_with fail
    go_meet
    have nb5:=HR.out.2.not HX1.out.lt NB1.out
    refine ⟨rfl,_,⟨v0,v1,v2,v3,_,rfl,HR.out.1.set 4 _⟩,HT1.out.trans (HR.out.2.trans (Turn.set _ _ _ _ _)),(HX1.out.turn HR.out.2 NB1.out).turn (Turn.set g _ 4 _ w5) nb5,nb5⟩
  case rest =>
   clear HD1 HT1 HX1 NB1;obtain ⟨rfl,b2,hd2,ht2,hx2,nb2⟩:=hcut;obtain ⟨v0,v1,v2,v3,v4,rfl,hO⟩:=hd2;have HO:=Ac hO;have HT2:=Ac ht2;have HX2:=Ac hx2;have NB2:=Ac nb2;have cz:=hO.has.lt;obtain ⟨x0,x1,x2,x3⟩:=hx2.cells4;have xz:=hx2.lt;clear hO ht2 hx2 nb2;have OKS:=Ac (OK.out.seen)
   rcases (show c.file=0∨c.file=1 by omega) with hf | hf
   ·have xf:(c.file:Int)=0:=by omega
    have EW0:=Ac (show (D.change c).seen 0=c.done (D.seen 0) by rw [EW.out,if_pos hf])
    have EW1:=Ac (show (D.change c).seen 1=D.seen 1 by rw [EW.out,if_neg (by omega)])
    have HF:=Ac hf;clear hf
    go_wp2_with fail
    refine Bz (wc) (by kernel_rfl) (by kernel_rfl) (Cls.start _) ?_
    repeat
     first
      | go_big_quiet_skip
      | (go_big_quiet_want;(first | go_big_quiet_op | go_simp);first | go_big_quiet_on | (apply Exists.intro;refine ⟨fun w' hw'=>?_, ?_⟩;(·(first | (with_reducible exact rfl) | (fail) | (obtain ⟨hc,hf⟩:=hw'.facts;go_simp;first | done | (with_reducible exact rfl) | (with_reducible exact ⟨rfl,rfl⟩))));go_big_quiet_on))
    refine wpQuiet_nil ?_
    intro wq hq;have HQ:=Ac hq;have HO2:=Ac (HO.out.below hq);have HX3:=Ac (HX2.out.Aj hq);clear hq x0 x1 x2 x3 xz cz;obtain ⟨x0,x1,x2,x3⟩:=HX3.out.cells4;have xz:=HX3.out.lt;obtain ⟨c0,c1,c2,c3,c4,c5,c6,c7⟩:=HO2.out.has.Le;have cf:=HO2.out.has.frozen;have cz:=HO2.out.has.lt
    go_wp2_with fail
    have T2:=Ac (fun w1 h1=>KS0 c v1 (D.seen 0) w1 h1 (OKS.out 0) FIT.out)
    unfold SR0 at T2;rw [xf] at T2
    go_region_law
     (first | (go_simp;go_at_call 87;(with_reducible refine (T2.out _ ((HO2.out.own 1 rfl).drew)).mono ?_);rintro e w5 ⟨v',rfl,hown5,hr5⟩;obtain ⟨A5,k5,rfl,_⟩:=Bd hown5;have HR:=Ac ((HO2.out.below (Below.refl _ _).drew).row 1 (r:=rowB v1 (D.seen 0)) (r':=rowB _ (c.done (D.seen 0))) rfl hr5.grown hown5 hr5.at_);have gf5:=HR.out.1.has.frozen;have gc5:=HR.out.1.has.Le;obtain ⟨g0,g1,g2,g3,g4,g5,g6,g7⟩:=gc5;have gz5:=HR.out.1.has.lt))
    all_goals
     go_wp2_with fail
     go_ret
     refine ⟨rfl,_, ?_,HT2.out.trans ((Turn.below _ HQ.out).trans ((Turn.below _ (Below.refl _ _).drew).trans (HR.out.2.trans (Turn.set _ _ 1 _ _))))⟩
     unfold DP;rw [EW0.out,EW1.out,EL.out.1,EL.out.2.1,EL.out.2.2.1,EL.out.2.2.2.1,EL.out.2.2.2.2.1,EL.out.2.2.2.2.2];exact ⟨_,_,_,_,_,rfl,HR.out.1.set 1 _⟩
   ·have xf:(c.file:Int)=1:=by omega
    have EW0:=Ac (show (D.change c).seen 1=c.done (D.seen 1) by rw [EW.out,if_pos hf])
    have EW1:=Ac (show (D.change c).seen 0=D.seen 0 by rw [EW.out,if_neg (by omega)])
    have HF:=Ac hf;clear hf
    go_wp2_with fail
    refine Bz (wc) (by kernel_rfl) (by kernel_rfl) (Cls.start _) ?_
    repeat
     first
      | go_big_quiet_skip
      | (go_big_quiet_want;(first | go_big_quiet_op | go_simp);first | go_big_quiet_on | (apply Exists.intro;refine ⟨fun w' hw'=>?_, ?_⟩;(·(first | (with_reducible exact rfl) | (fail) | (obtain ⟨hc,hf⟩:=hw'.facts;go_simp;first | done | (with_reducible exact rfl) | (with_reducible exact ⟨rfl,rfl⟩))));go_big_quiet_on))
    refine wpQuiet_nil ?_
    intro wq hq;have HQ:=Ac hq;have HO2:=Ac (HO.out.below hq);have HX3:=Ac (HX2.out.Aj hq);clear hq x0 x1 x2 x3 xz cz;obtain ⟨x0,x1,x2,x3⟩:=HX3.out.cells4;have xz:=HX3.out.lt;obtain ⟨c0,c1,c2,c3,c4,c5,c6,c7⟩:=HO2.out.has.Le;have cf:=HO2.out.has.frozen;have cz:=HO2.out.has.lt
    go_wp2_with fail
    have T2:=Ac (fun w1 h1=>KS0 c v3 (D.seen 1) w1 h1 (OKS.out 1) FIT.out)
    unfold SR0 at T2;rw [xf] at T2
    go_region_law
     (first | (go_simp;go_at_call 87;(with_reducible refine (T2.out _ ((HO2.out.own 3 rfl).drew)).mono ?_);rintro e w5 ⟨v',rfl,hown5,hr5⟩;obtain ⟨A5,k5,rfl,_⟩:=Bd hown5;have HR:=Ac ((HO2.out.below (Below.refl _ _).drew).row 3 (r:=rowB v3 (D.seen 1)) (r':=rowB _ (c.done (D.seen 1))) rfl hr5.grown hown5 hr5.at_);have gf5:=HR.out.1.has.frozen;have gc5:=HR.out.1.has.Le;obtain ⟨g0,g1,g2,g3,g4,g5,g6,g7⟩:=gc5;have gz5:=HR.out.1.has.lt))
    all_goals
     go_wp2_with fail
     go_ret
     refine ⟨rfl,_, ?_,HT2.out.trans ((Turn.below _ HQ.out).trans ((Turn.below _ (Below.refl _ _).drew).trans (HR.out.2.trans (Turn.set _ _ 3 _ _))))⟩
     unfold DP;rw [EW0.out,EW1.out,EL.out.1,EL.out.2.1,EL.out.2.2.1,EL.out.2.2.2.1,EL.out.2.2.2.2.1,EL.out.2.2.2.2.2];exact ⟨_,_,_,_,_,rfl,HR.out.1.set 3 _⟩
theorem Qw.refl {w:World} {b:List (Option Nat)} {g:Nat} {D:Dk} {r:Value} (h:DP w b g D):Qw w b g D r (.returned r) w:=⟨rfl,b,h,Turn.refl _ _⟩
theorem Ze (g:Nat) (D:Dk) (b:List (Option Nat)) (f a:Int) (s:ByteArray) (w:World) (h:DP w b g D) (hok:D.ok) (hct:D.count≤4000000000000000000) (hws:D.waits.length≤1000000000) (hs:s.size≤9223372036854775807) :
 Calls Tryz.prog 172 #[.pointer (some ⟨g,0,none⟩),.int .i64 f,.int .i64 a,.string s] w (Qw w b g (D.write f a s) (.int .i64 (D.Pn f a s))):=by
 have R:=Ac (fun w1=>Qi f a s.size w1)
 have HH:=Ac h
 by_cases hf:Lr f a s.size
 ·rw [Qo hf] at R
  have T:=Ac (fun w1 (h1:DP w1 b g D)=>BU0 g D b ⟨f.toNat,a.toNat,s,false⟩ w1 h1 hok hct hws ⟨by show f.toNat<2;have:=hf.1;have:=hf.2.1;omega,by show a.toNat≤_;have:=hf.2.2.2.2.1;omega,by show a.toNat+s.size≤_;obtain ⟨h1,h2,h3,h4,h5,h6⟩:=hf;omega,fun h=>by cases h⟩)
  have E:=Ac (show D.write f a s=D.change ⟨f.toNat,a.toNat,s,false⟩∧D.Pn f a s=D.Ec from ⟨if_pos hf,if_pos hf⟩)
  rw [E.out.1,E.out.2];unfold SR0 at T;simp only at T
  rw [show ((f.toNat:Nat):Int)=f from Int.toNat_of_nonneg hf.1,show ((a.toNat:Nat):Int)=a from Int.toNat_of_nonneg hf.2.2.1] at T
  obtain ⟨x,hx⟩:∃ x,D.Ec=x:=⟨_,rfl⟩;obtain ⟨D',hD'⟩:∃ x,D.change ⟨f.toNat,a.toNat,s,false⟩=x:=⟨_,rfl⟩;rw [hx,hD'] at T ⊢;clear hx hD' hok hct hws h hf
  go_enter Tryz.func172,Tryz.ntmps172
  go_wp2_with (first | (go_at_call 169;(with_reducible refine (R.out _).mono ?_);rintro e w1 ⟨rfl,rfl⟩) | (go_at_call 214;(with_reducible refine (T.out _ HH.out).mono ?_);rintro e w2 ⟨rfl,hp⟩))
  go_ret
  exact ⟨rfl,hp⟩
 ·rw [Jj hf] at R
  have E:=Ac (show D.write f a s=D∧D.Pn f a s=1 from ⟨if_neg hf,if_neg hf⟩)
  rw [E.out.1,E.out.2];clear hf h
  go_enter Tryz.func172,Tryz.ntmps172
  go_wp2_with (go_at_call 169;(with_reducible refine (R.out _).mono ?_);rintro e w1 ⟨rfl,rfl⟩)
  go_ret
  exact Qw.refl HH.out
theorem ZG0 (g:Nat) (D:Dk) (b:List (Option Nat)) (f a:Int) (w:World) (h:DP w b g D) (hok:D.ok) (hct:D.count≤4000000000000000000) (hws:D.waits.length≤1000000000) :
 Calls Tryz.prog 175 #[.pointer (some ⟨g,0,none⟩),.int .i64 f,.int .i64 a] w (Qw w b g (D.Uu f a) (.int .i64 (D.ES1 f a))):=by
 have R:=Ac (fun w1=>Qi f a 0 w1)
 have HH:=Ac h
 by_cases hf:Lr f a 0
 ·rw [Qo hf] at R
  have T:=Ac (fun w1 (h1:DP w1 b g D)=>BU0 g D b ⟨f.toNat,a.toNat,⟨#[]⟩,true⟩ w1 h1 hok hct hws ⟨by show f.toNat<2;have:=hf.1;have:=hf.2.1;omega,by show a.toNat≤_;have:=hf.2.2.2.2.1;omega,by show a.toNat+0≤_;obtain ⟨h1,h2,h3,h4,h5,h6⟩:=hf;omega,fun _=>rfl⟩)
  have E:=Ac (show D.Uu f a=D.change ⟨f.toNat,a.toNat,⟨#[]⟩,true⟩∧D.ES1 f a=D.Ec from ⟨if_pos hf,if_pos hf⟩)
  rw [E.out.1,E.out.2];unfold SR0 at T;simp only at T
  rw [show ((f.toNat:Nat):Int)=f from Int.toNat_of_nonneg hf.1,show ((a.toNat:Nat):Int)=a from Int.toNat_of_nonneg hf.2.2.1] at T
  obtain ⟨x,hx⟩:∃ x,D.Ec=x:=⟨_,rfl⟩;obtain ⟨D',hD'⟩:∃ x,D.change ⟨f.toNat,a.toNat,⟨#[]⟩,true⟩=x:=⟨_,rfl⟩;rw [hx,hD'] at T ⊢;clear hx hD' hok hct hws h hf
  go_enter Tryz.func175,Tryz.ntmps175
  go_wp2_with (first | (go_at_call 169;(with_reducible refine (R.out _).mono ?_);rintro e w1 ⟨rfl,rfl⟩) | (go_at_call 214;(with_reducible refine (T.out _ HH.out).mono ?_);rintro e w2 ⟨rfl,hp⟩))
  go_ret
  exact ⟨rfl,hp⟩
 ·rw [Jj hf] at R
  have E:=Ac (show D.Uu f a=D∧D.ES1 f a=1 from ⟨if_neg hf,if_neg hf⟩)
  rw [E.out.1,E.out.2];clear hf h
  go_enter Tryz.func175,Tryz.ntmps175
  go_wp2_with (go_at_call 169;(with_reducible refine (R.out _).mono ?_);rintro e w1 ⟨rfl,rfl⟩)
  go_ret
  exact Qw.refl HH.out
def CS (w:World) (A:Option Addr) (n:Nat) (ws:List Ch):Prop :=
 ws.length=n∧(0<n→∃ b off,A=some ⟨b,off,none⟩∧b<w.heap.size∧∀ i c,ws[i]? = some c →
  w.cell? ⟨b,off+i*4,none⟩=some (.int .i64 c.file)∧w.cell? ⟨b,off+i*4+1,none⟩=some (.int .i64 c.at_)∧w.cell? ⟨b,off+i*4+2,none⟩=some (.string c.text)∧w.cell? ⟨b,off+i*4+3,none⟩=some (.bool c.cut))
theorem Vp:∀ ws:List Ch,(Gq ws).length=ws.length*4
 | []=>rfl
 | c :: ws=>by
   have:=Vp ws;simp only [Gq,List.flatMap_cons,List.length_append,List.length_cons] at this ⊢;rw [this];simp only [Ch.cells,List.length_cons,List.length_nil];omega
theorem DG0:∀ (ws:List Ch) (j:Nat),(Gq ws)[j]? = ws[j / 4]?.bind fun v=>v.cells[j % 4]?
 | [],j=>by simp [Gq]
 | v :: ws,j=>by
   have hs:Gq (v :: ws)=v.cells++Gq ws:=by simp [Gq]
   rw [hs]
   by_cases h:j<4
   ·rw [List.getElem?_append_left (by simpa [Ch.cells] using h),Nat.div_eq_of_lt h,Nat.mod_eq_of_lt h]
    simp
   ·rw [List.getElem?_append_right (by simp [Ch.cells];omega),show v.cells.length=4 from rfl,DG0 ws (j-4)]
    have e1:j / 4=(j-4) / 4+1:=by omega
    have e2:j % 4=(j-4) % 4:=by omega
    rw [e1,e2];simp
theorem CS.Dv {w:World} {b:Nat} {e:TypeId} {v:Value} {n:Nat} {ws:List Ch} (h:w.ownsRow b e 4 v n (Gq ws)):∃ A c,v = .slice A n c∧n≤c∧CS w A n ws:=by
 have hl:ws.length=n:=by have:=h.1;rw [Vp] at this;omega
 rcases h.2 with ⟨rfl,h0⟩ | ⟨g,cap,cur,rfl,hb,hg,hn,_⟩
 ·subst h0
  exact ⟨none,0,rfl,Nat.le_refl _,hl,fun h=>absurd h (by omega)⟩
 ·refine ⟨_,_,rfl,hn,hl,fun _=>⟨g,0,rfl,(Array.getElem?_eq_some_iff.1 hg).1,fun i c hc=>?_⟩⟩
  have gg:∀ r u,r<4→c.cells[r]? = some u→w.cell? ⟨g,0+(i*4+r),none⟩=some u:=fun r u hr hu=>by
   have:=h.cells (g:=g) rfl (i*4+r) u (by rw [DG0,show (i*4+r) / 4=i by omega,show (i*4+r) % 4=r by omega,hc];exact hu)
   rw [addr_add] at this;exact this
  refine ⟨gg 0 _ (by omega) rfl, ?_, ?_, ?_⟩
  ·have:=gg 1 _ (by omega) rfl;simpa [Nat.add_assoc] using this
  ·have:=gg 2 _ (by omega) rfl;simpa [Nat.add_assoc] using this
  ·have:=gg 3 _ (by omega) rfl;simpa [Nat.add_assoc] using this
theorem MQ0 {A:Option Addr} {n c n' c' m:Nat} (hat:Value.ownBlock (.slice A n c)=Value.ownBlock (.slice none 0 0)∨Value.ownBlock (.slice A n c)=some m):∀ k,Value.ownBlock (.slice A n' c')=some k→m≤k:=fun k hk=>by
 cases A with
 | none=>cases hk
 | some a =>
   rcases hat with e | e
   ·cases e
   ·have h2:some a.block=some k:=hk
    have h3:some a.block=some m:=e;rw [h2] at h3;cases h3;exact Nat.le_refl _
theorem Sz (w:World) (o o2:Obj):((w.alloc o).alloc o2).heap[w.heap.size+1]? = some o2:=by
 have:=heap_alloc_new (w.alloc o) o2
 rwa [World.size_alloc] at this
def Rz (ws:List Ch) (f:Nat):List Ch:=ws.filter (fun c=>decide (c.file≠f))
theorem KT0 {ws:List Ch} {i f:Nat} (hi:i<ws.length) (h:ws[i].file≠f):Rz (ws.take (i+1)) f=Rz (ws.take i) f++[ws[i]]:=by
 unfold Rz
 rw [List.take_succ_eq_append_getElem hi,List.filter_append,List.filter_cons_of_pos (by simpa using h)];rfl
theorem RC0 {ws:List Ch} {i f:Nat} (hi:i<ws.length) (h:ws[i].file=f):Rz (ws.take (i+1)) f=Rz (ws.take i) f:=by
 unfold Rz
 rw [List.take_succ_eq_append_getElem hi,List.filter_append,List.filter_cons_of_neg (by simpa using h)];simp
theorem MR0 (ws:List Ch) (f:Nat):(Rz ws f).length≤ws.length:=List.length_filter_le _ _
theorem Yf (g:Nat) (D:Dk) (b:List (Option Nat)) (f:Int) (w:World) (h:DP w b g D) (hok:D.ok) (hct:D.count≤4000000000000000000) (hws:D.waits.length≤1000000000) :
 Calls Tryz.prog 119 #[.pointer (some ⟨g,0,none⟩),.int .i64 f] w (Qw w b g (D.sync f) (.int .i64 (D.Py f))):=by
 obtain ⟨i0,hi,hz0,hz1,hz2⟩:=info_parts infoByte
 have R:=Ac (fun w1=>Qi f 0 0 w1)
 have HH:=Ac h
 have T:=Ac (fun w1 (h1:DP w1 b g D)=>MB0 g D b w1 h1 hok hct)
 have OK:=Ac hok
 by_cases hf:0≤f∧f<2
 ·rw [Qo ⟨hf.1,hf.2,by omega,by omega,by omega,by omega⟩] at R
  obtain ⟨F,rfl⟩:∃ F:Nat,f=F:=⟨f.toNat,by omega⟩
  obtain ⟨hf1,hf2⟩:=hf
  by_cases hst:D.stops
  ·have E:=Ac (show D.Ec=2∧D.sync F=D.turn∧D.Py F=2 from ⟨if_pos hst,by unfold Dk.sync;rw [if_pos ⟨hf1,hf2⟩,if_pos hst],by unfold Dk.Py;rw [if_pos ⟨hf1,hf2⟩];exact if_pos hst⟩)
   rw [E.out.2.1,E.out.2.2];rw [E.out.1] at T;clear hst h hok hct
   go_enter Tryz.func119,Tryz.ntmps119
   go_wp2_with (first | (go_at_call 169;(with_reducible refine (R.out _).mono ?_);rintro e w1 ⟨rfl,rfl⟩) | (go_at_call 189;(with_reducible refine (T.out _ HH.out).mono ?_);rintro e w2 ⟨rfl,hp⟩))
   go_ret
   exact ⟨rfl,hp⟩
  ·have E:=Ac (show D.Ec=0∧D.Py F=0 from ⟨if_neg hst,by unfold Dk.Py;rw [if_pos ⟨hf1,hf2⟩];exact if_neg hst⟩)
   have ES:=Ac (show D.sync F=D.Qg F by unfold Dk.sync;rw [if_pos ⟨hf1,hf2⟩,if_neg hst];rfl)
   have ET:=Ac (show D.turn={ D with fails:=if 0<D.fails then D.fails-1 else D.fails,count:=D.count+1 } from if_neg hst)
   have EV:=Ac (fun k=>Dk.FT0 D F k (by omega))
   have LS:=Ac (hok.seen);rw [E.out.2,ES.out];rw [E.out.1] at T;clear hst h hok hct
   rcases (show F=0∨F=1 by omega) with rfl | rfl
   ·rw [show ((0:Nat):Int)=0 from rfl] at R ⊢
    go_enter Tryz.func119,Tryz.ntmps119
    go_upto_region 6 with (first | (go_at_call 169;(with_reducible refine (R.out _).mono ?_);rintro e w1 ⟨rfl,rfl⟩) | (go_at_call 189;(with_reducible refine (T.out _ HH.out).mono ?_);rintro e w1 ⟨rfl,b1,hd1,ht1⟩))
    have HD1:=Ac (show DPx w1 b1 g D.l0 (D.seen 0) D.l1 (D.seen 1) D.waits D.turn.fails D.turn.down D.turn.count by
     have h2:=hd1;rw [ET.out] at h2 ⊢
     exact h2)
    have HT1:=Ac ht1;clear hd1 ht1
    go_cut [2] (fun s2 wx=>∃ b2,DPx wx b2 g (D.seen 0) (D.seen 0) D.l1 (D.seen 1) D.waits D.turn.fails D.turn.down D.turn.count∧Turn b b2 w wx)
    case first =>
     obtain ⟨v0,v1,v2,v3,v4,rfl,hO⟩:=HD1.out;have HO:=Ac hO;obtain ⟨c0,c1,c2,c3,c4,c5,c6,c7⟩:=hO.has.Le;have cf:=hO.has.frozen;have cz:=hO.has.lt;obtain ⟨As,cs,hvs,_,hbs⟩:=BS.Dv (l:=D.seen 0) (hO.own 1 rfl)
     rw [show v1 = .slice As (D.seen 0).length cs from hvs] at c1
     have HBS:=Ac hbs;clear hO hvs hbs
     have G1:=Ac (show 0+(D.seen 0).length≤maxLen by have:=LS.out 0;unfold maxLen;omega)
     have G2:=Ac (show (0+(D.seen 0).length)*1≤140737488355328 by have:=LS.out 0;omega)
     go_region_law
      (refine Hg (by rfl) _ _ _ _ (by rfl) 0 5 i0 _ 1 1 Tryz.underlying39 hi hz0 hz1 hz2 Xf (by omega) (.slice none 0 0) 0 [] (by rfl) (World.ownsRow_nil _ _ _ _) _ (D.seen 0).length (u8s (D.seen 0)) (by rfl) ((HBS.out.keep (Below.refl _ _).drew).src Tryz.underlying39) G1.out G2.out (Nat.zero_le _) ?_;intro A5 k5 w5 hown5 hgrow hat;have HR:=Ac ((HO.out.below (Below.refl _ _).drew).row 0 (r:=rowB v0 D.l0) (r':=rowB (.slice A5 (D.seen 0).length k5) (D.seen 0)) rfl (AO0 hgrow) (by have h9:=hown5;rw [Nat.zero_add] at h9;exact h9) (.inr (MQ0 hat)));have gf5:=HR.out.1.has.frozen;have gc5:=HR.out.1.has.Le;obtain ⟨g0,g1,g2,g3,g4,g5,g6,g7⟩:=gc5;have gz5:=HR.out.1.has.lt)
     all_goals
      go_wp2_with fail
      go_meet
      exact ⟨_,⟨_,_,_,_,_,rfl,HR.out.1.set 0 _⟩,HT1.out.trans ((Turn.below _ (Below.refl _ _).drew).trans (HR.out.2.trans (Turn.set _ _ 0 _ _)))⟩
    case rest =>
     clear HD1 HT1;obtain ⟨b2,hd2,ht2⟩:=hcut;obtain ⟨v0,v1,v2,v3,v4,rfl,hO⟩:=hd2;have HO:=Ac hO;have HT2:=Ac ht2
     obtain ⟨A4,k4,rfl,hnc,hcs⟩:=CS.Dv (show wc.ownsRow 0 156 4 v4 D.waits.length (Gq D.waits) from hO.own 4 rfl)
     have HCS:=Ac hcs;obtain ⟨c0,c1,c2,c3,c4,c5,c6,c7⟩:=hO.has.Le;have cf:=hO.has.frozen;have cz:=hO.has.lt;clear hO ht2 hcs;obtain ⟨i1,hi1,hz3,hz4,hz5⟩:=info_parts VW0
     go_wp2_with fail
     go_loopw [6,36] (fun v6 v36 wr=>∃ i:Nat,i≤D.waits.length∧v36 = .int .i64 i∧wr.ownsRow wc.heap.size 156 4 v6 (Rz (D.waits.take i) 0).length (Gq (Rz (D.waits.take i) 0))∧Below wc.heap.size wc wr) (fun _ v36 _=>D.waits.length-(intOf v36).toNat)
     case atStart=>exact ⟨0,Nat.zero_le _,rfl,World.ownsRow_nil _ _ _ _,Below.refl _ _⟩
     case round =>
      obtain ⟨i,hin,rfl,ho,hb⟩:=hrel;have HRO:=Ac ho;have HB:=Ac hb;clear ho hb
      by_cases hi2:i<D.waits.length
      ·obtain ⟨b4,o4,rfl,hb4,hcc⟩:=HCS.out.2 (by omega)
       obtain ⟨a0,a1,a2,a3⟩:=hcc i D.waits[i] (by simp [hi2])
       obtain ⟨wcl,wfl⟩:=Vf HB.out;have d0:=(wcl b4 (o4+i*4) hb4).trans a0;have d1:=(wcl b4 (o4+i*4+1) hb4).trans a1;have d2:=(wcl b4 (o4+i*4+2) hb4).trans a2;have d3:=(wcl b4 (o4+i*4+3) hb4).trans a3
       have zz:b4<wr.heap.size:=by have:=HB.out.size;omega
       have RY:=Ac (KT0 (ws:=D.waits) (f:=0) hi2);have RN:=Ac (RC0 (ws:=D.waits) (f:=0) hi2);have RL:=Ac (MR0 (D.waits.take i) 0);obtain ⟨x,hx⟩:∃ x,D.waits[i]=x:=⟨_,rfl⟩;rw [hx] at d0 d1 d2 d3;simp only [hx] at RY RN;clear hcc a0 a1 a2 a3 wcl wfl hx
       have tl:(D.waits.take i).length≤1000000000:=by rw [List.length_take];omega
       by_cases hxf:x.file=0
       ·have RN2:=Ac (RN.out hxf)
        have xe:((x.file:Int) != 0)=false:=by rw [bne_eq_false_iff_eq];omega
        clear RY RN
        go_wp2_with fail
        go_roundw
        case rel=>exact ⟨i+1,by omega,by simp,by rw [RN2.out];exact HRO.out.alloc _,HB.out.alloc HB.out.size _⟩
        case measure=>simp [intOf];omega
       ·have RY2:=Ac (RY.out hxf)
        have xe:((x.file:Int) != 0)=true:=by rw [bne_iff_ne];omega
        have G1:=Ac (show (Rz (D.waits.take i) 0).length+1≤maxLen by have:=RL.out;unfold maxLen;omega)
        have G2:=Ac (show ((Rz (D.waits.take i) 0).length+1)*40≤140737488355328 by have:=RL.out;omega)
        clear RY RN
        go_wp2_with (at_builtin;(refine Dh _ rfl (.tmp 44) (.tmp 46) 94 94 rfl wc.heap.size 156 i1 _ 4 40 Tryz.underlying94 hi1 hz3 hz4 hz5 Ws (by decide) _ (Rz (D.waits.take i) 0).length _ rfl ((HRO.out.alloc _).alloc _) (.slice (some ⟨_,0,none⟩) 1 1) 1 x.cells rfl (Src.ofSlice _ Tryz.underlying94 ⟨_,0,none⟩ 1 1 x.cells rfl (World.news_of_block (Sz _ _ _)) (Wh x)) G1.out G2.out (Nat.le_trans HB.out.size (by simp;omega)) ?_);intro v1 w6 hown1 hg1 _ hat1;have HO6:=Ac hown1;have HB6:=Ac ((((HB.out.alloc HB.out.size _).alloc (Nat.le_trans HB.out.size (by simp)) _).grown hg1 (Nat.le_trans HB.out.size (by simp;omega)) (fun k hk=>(HRO.out.lt k hk).1)));clear hown1 hg1 hat1)
        go_roundw
        case rel=>exact ⟨i+1,by omega,by simp,by rw [RY2.out,Tu,List.length_append];exact HO6.out,HB6.out⟩
        case measure=>simp [intOf];omega
      ·obtain rfl:i=D.waits.length:=by omega
       have HOr:=Ac (HO.out.below HB.out);clear c0 c1 c2 c3 c4 c5 c6 c7 cf cz;obtain ⟨c0,c1,c2,c3,c4,c5,c6,c7⟩:=HOr.out.has.Le;have cf:=HOr.out.has.frozen;have cz:=HOr.out.has.lt;obtain ⟨A6,k6,rfl,_⟩:=Bd HRO.out
       have ER:=Ac (show Rz (D.waits.take D.waits.length) 0=(D.Qg 0).waits by rw [List.take_length];rfl)
       rw [ER.out] at HRO ⊢
       go_wp2_with fail
       go_ret
       have hlow:∀ k,Value.ownBlock (.slice A6 (D.Qg 0).waits.length k6)=some k→wc.heap.size≤k:=fun k hk=>(HRO.out.lt k hk).1
       refine ⟨rfl,_, ?_,((HT2.out.trans (Turn.below _ HB.out)).swap 4 (r':=ZB0 (.slice A6 (D.Qg 0).waits.length k6) (D.Qg 0).waits) (fun k hk=>Nat.le_trans HT2.out.size (hlow k hk))).trans (Turn.set _ _ 4 _ _)⟩
       unfold DP
       rw [EV.out 0 (by omega),EV.out 1 (by omega)]
       exact ⟨_,_,_,_,_,rfl,((HOr.out.swap 4 (r':=ZB0 (.slice A6 (D.Qg 0).waits.length k6) (D.Qg 0).waits) rfl (JN0 HRO.out) (fun k hk h2=>by have h3:=hlow k hk;have h4:=HO.out.lt h2;omega)).set 4 _)⟩
   ·rw [show ((1:Nat):Int)=1 from rfl] at R ⊢
    go_enter Tryz.func119,Tryz.ntmps119
    go_upto_region 6 with (first | (go_at_call 169;(with_reducible refine (R.out _).mono ?_);rintro e w1 ⟨rfl,rfl⟩) | (go_at_call 189;(with_reducible refine (T.out _ HH.out).mono ?_);rintro e w1 ⟨rfl,b1,hd1,ht1⟩))
    have HD1:=Ac (show DPx w1 b1 g D.l0 (D.seen 0) D.l1 (D.seen 1) D.waits D.turn.fails D.turn.down D.turn.count by
     have h2:=hd1;rw [ET.out] at h2 ⊢
     exact h2)
    have HT1:=Ac ht1;clear hd1 ht1
    go_cut [2] (fun s2 wx=>∃ b2,DPx wx b2 g D.l0 (D.seen 0) (D.seen 1) (D.seen 1) D.waits D.turn.fails D.turn.down D.turn.count∧Turn b b2 w wx)
    case first =>
     obtain ⟨v0,v1,v2,v3,v4,rfl,hO⟩:=HD1.out;have HO:=Ac hO;obtain ⟨c0,c1,c2,c3,c4,c5,c6,c7⟩:=hO.has.Le;have cf:=hO.has.frozen;have cz:=hO.has.lt;obtain ⟨As,cs,hvs,_,hbs⟩:=BS.Dv (l:=D.seen 1) (hO.own 3 rfl)
     rw [show v3 = .slice As (D.seen 1).length cs from hvs] at c3
     have HBS:=Ac hbs;clear hO hvs hbs
     have G1:=Ac (show 0+(D.seen 1).length≤maxLen by have:=LS.out 1;unfold maxLen;omega)
     have G2:=Ac (show (0+(D.seen 1).length)*1≤140737488355328 by have:=LS.out 1;omega)
     go_region_law
      (refine Hg (by rfl) _ _ _ _ (by rfl) 0 5 i0 _ 1 1 Tryz.underlying39 hi hz0 hz1 hz2 Xf (by omega) (.slice none 0 0) 0 [] (by rfl) (World.ownsRow_nil _ _ _ _) _ (D.seen 1).length (u8s (D.seen 1)) (by rfl) ((HBS.out.keep (Below.refl _ _).drew).src Tryz.underlying39) G1.out G2.out (Nat.zero_le _) ?_;intro A5 k5 w5 hown5 hgrow hat;have HR:=Ac ((HO.out.below (Below.refl _ _).drew).row 2 (r:=rowB v2 D.l1) (r':=rowB (.slice A5 (D.seen 1).length k5) (D.seen 1)) rfl (AO0 hgrow) (by have h9:=hown5;rw [Nat.zero_add] at h9;exact h9) (.inr (MQ0 hat)));have gf5:=HR.out.1.has.frozen;have gc5:=HR.out.1.has.Le;obtain ⟨g0,g1,g2,g3,g4,g5,g6,g7⟩:=gc5;have gz5:=HR.out.1.has.lt)
     all_goals
      go_wp2_with fail
      go_meet
      exact ⟨_,⟨_,_,_,_,_,rfl,HR.out.1.set 2 _⟩,HT1.out.trans ((Turn.below _ (Below.refl _ _).drew).trans (HR.out.2.trans (Turn.set _ _ 2 _ _)))⟩
    case rest =>
     clear HD1 HT1;obtain ⟨b2,hd2,ht2⟩:=hcut;obtain ⟨v0,v1,v2,v3,v4,rfl,hO⟩:=hd2;have HO:=Ac hO;have HT2:=Ac ht2
     obtain ⟨A4,k4,rfl,hnc,hcs⟩:=CS.Dv (show wc.ownsRow 0 156 4 v4 D.waits.length (Gq D.waits) from hO.own 4 rfl)
     have HCS:=Ac hcs;obtain ⟨c0,c1,c2,c3,c4,c5,c6,c7⟩:=hO.has.Le;have cf:=hO.has.frozen;have cz:=hO.has.lt;clear hO ht2 hcs;obtain ⟨i1,hi1,hz3,hz4,hz5⟩:=info_parts VW0
     go_wp2_with fail
     go_loopw [6,36] (fun v6 v36 wr=>∃ i:Nat,i≤D.waits.length∧v36 = .int .i64 i∧wr.ownsRow wc.heap.size 156 4 v6 (Rz (D.waits.take i) 1).length (Gq (Rz (D.waits.take i) 1))∧Below wc.heap.size wc wr) (fun _ v36 _=>D.waits.length-(intOf v36).toNat)
     case atStart=>exact ⟨0,Nat.zero_le _,rfl,World.ownsRow_nil _ _ _ _,Below.refl _ _⟩
     case round =>
      obtain ⟨i,hin,rfl,ho,hb⟩:=hrel;have HRO:=Ac ho;have HB:=Ac hb;clear ho hb
      by_cases hi2:i<D.waits.length
      ·obtain ⟨b4,o4,rfl,hb4,hcc⟩:=HCS.out.2 (by omega)
       obtain ⟨a0,a1,a2,a3⟩:=hcc i D.waits[i] (by simp [hi2])
       obtain ⟨wcl,wfl⟩:=Vf HB.out;have d0:=(wcl b4 (o4+i*4) hb4).trans a0;have d1:=(wcl b4 (o4+i*4+1) hb4).trans a1;have d2:=(wcl b4 (o4+i*4+2) hb4).trans a2;have d3:=(wcl b4 (o4+i*4+3) hb4).trans a3
       have zz:b4<wr.heap.size:=by have:=HB.out.size;omega
       have RY:=Ac (KT0 (ws:=D.waits) (f:=1) hi2);have RN:=Ac (RC0 (ws:=D.waits) (f:=1) hi2);have RL:=Ac (MR0 (D.waits.take i) 1);obtain ⟨x,hx⟩:∃ x,D.waits[i]=x:=⟨_,rfl⟩;rw [hx] at d0 d1 d2 d3;simp only [hx] at RY RN;clear hcc a0 a1 a2 a3 wcl wfl hx
       have tl:(D.waits.take i).length≤1000000000:=by rw [List.length_take];omega
       by_cases hxf:x.file=1
       ·have RN2:=Ac (RN.out hxf)
        have xe:((x.file:Int) != 1)=false:=by rw [bne_eq_false_iff_eq];omega
        clear RY RN
        go_wp2_with fail
        go_roundw
        case rel=>exact ⟨i+1,by omega,by simp,by rw [RN2.out];exact HRO.out.alloc _,HB.out.alloc HB.out.size _⟩
        case measure=>simp [intOf];omega
       ·have RY2:=Ac (RY.out hxf)
        have xe:((x.file:Int) != 1)=true:=by rw [bne_iff_ne];omega
        have G1:=Ac (show (Rz (D.waits.take i) 1).length+1≤maxLen by have:=RL.out;unfold maxLen;omega)
        have G2:=Ac (show ((Rz (D.waits.take i) 1).length+1)*40≤140737488355328 by have:=RL.out;omega)
        clear RY RN
        go_wp2_with (at_builtin;(refine Dh _ rfl (.tmp 44) (.tmp 46) 94 94 rfl wc.heap.size 156 i1 _ 4 40 Tryz.underlying94 hi1 hz3 hz4 hz5 Ws (by decide) _ (Rz (D.waits.take i) 1).length _ rfl ((HRO.out.alloc _).alloc _) (.slice (some ⟨_,0,none⟩) 1 1) 1 x.cells rfl (Src.ofSlice _ Tryz.underlying94 ⟨_,0,none⟩ 1 1 x.cells rfl (World.news_of_block (Sz _ _ _)) (Wh x)) G1.out G2.out (Nat.le_trans HB.out.size (by simp;omega)) ?_);intro v1 w6 hown1 hg1 _ hat1;have HO6:=Ac hown1;have HB6:=Ac ((((HB.out.alloc HB.out.size _).alloc (Nat.le_trans HB.out.size (by simp)) _).grown hg1 (Nat.le_trans HB.out.size (by simp;omega)) (fun k hk=>(HRO.out.lt k hk).1)));clear hown1 hg1 hat1)
        go_roundw
        case rel=>exact ⟨i+1,by omega,by simp,by rw [RY2.out,Tu,List.length_append];exact HO6.out,HB6.out⟩
        case measure=>simp [intOf];omega
      ·obtain rfl:i=D.waits.length:=by omega
       have HOr:=Ac (HO.out.below HB.out);clear c0 c1 c2 c3 c4 c5 c6 c7 cf cz;obtain ⟨c0,c1,c2,c3,c4,c5,c6,c7⟩:=HOr.out.has.Le;have cf:=HOr.out.has.frozen;have cz:=HOr.out.has.lt;obtain ⟨A6,k6,rfl,_⟩:=Bd HRO.out
       have ER:=Ac (show Rz (D.waits.take D.waits.length) 1=(D.Qg 1).waits by rw [List.take_length];rfl)
       rw [ER.out] at HRO ⊢
       go_wp2_with fail
       go_ret
       have hlow:∀ k,Value.ownBlock (.slice A6 (D.Qg 1).waits.length k6)=some k→wc.heap.size≤k:=fun k hk=>(HRO.out.lt k hk).1
       refine ⟨rfl,_, ?_,((HT2.out.trans (Turn.below _ HB.out)).swap 4 (r':=ZB0 (.slice A6 (D.Qg 1).waits.length k6) (D.Qg 1).waits) (fun k hk=>Nat.le_trans HT2.out.size (hlow k hk))).trans (Turn.set _ _ 4 _ _)⟩
       unfold DP
       rw [EV.out 0 (by omega),EV.out 1 (by omega)]
       exact ⟨_,_,_,_,_,rfl,((HOr.out.swap 4 (r':=ZB0 (.slice A6 (D.Qg 1).waits.length k6) (D.Qg 1).waits) rfl (JN0 HRO.out) (fun k hk h2=>by have h3:=hlow k hk;have h4:=HO.out.lt h2;omega)).set 4 _)⟩
 ·rw [Jj (fun h=>hf ⟨h.1,h.2.1⟩)] at R
  have E:=Ac (show D.sync f=D∧D.Py f=1 from ⟨if_neg hf,if_neg hf⟩)
  rw [E.out.1,E.out.2];clear hf h
  go_enter Tryz.func119,Tryz.ntmps119
  go_wp2_with (go_at_call 169;(with_reducible refine (R.out _).mono ?_);rintro e w1 ⟨rfl,rfl⟩)
  go_ret
  exact Qw.refl HH.out
open Go.Maps
structure Rw where
 D:Dk
 nf:Nat
 np:Nat
 f1:Int→Nat
 kf:Nat
 kp:Nat
 f2:Int→Nat
 slot:Nat
 number:Nat
def CD0 (gd m1 m2:Nat) (R:Rw):Array Value:=#[.pointer (some ⟨gd,0,none⟩),.int .i64 R.nf,.int .i64 R.np,.map (some m1),.int .i64 R.kf,.int .i64 R.kp,.map (some m2),.int .i64 R.slot,.int .i64 R.number]
def lb (g m1 m2:Nat):List (Option Nat):=[some g,some m1,some m2]
structure LR (w:World) (b:List (Option Nat)) (gd g m1 m2:Nat) (R:Rw):Prop where
 disk:DP w b gd R.D
 has:Has w g 181 (CD0 gd m1 m2 R)
 map1:MP w m1 R.nf R.f1
 map2:MP w m2 R.kf R.f2
 ne:m1≠m2
 apart:QR0 b (lb g m1 m2)
theorem OX0 {w:World} {g m:Nat} {t:TypeId} {cs:Array Value} {n:Nat} {f:Int→Nat} (h:Has w g t cs) (hm:MP w m n f):g≠m:=by
 rintro rfl;obtain ⟨D,⟨es,cl,h1,_⟩,_⟩:=hm;unfold Has at h;rw [h] at h1;cases h1
theorem MP.turn {w w':World} {b b':List (Option Nat)} {m n:Nat} {f:Int→Nat} (h:MP w m n f) (ht:Turn b b' w w') (hg:some m∉b):MP w' m n f:=h.block (ht.block m h.lt hg)
theorem DP.turn {w w':World} {b c c':List (Option Nat)} {g:Nat} {D:Dk} (h:DP w b g D) (ht:Turn c c' w w') (hd:QR0 c b):DP w' b g D:=by
 obtain ⟨v0,v1,v2,v3,v4,rfl,h2⟩:=h;exact ⟨v0,v1,v2,v3,v4,rfl,h2.far ht hd⟩
theorem Turn.left {w w':World} {b b':List (Option Nat)} (c:List (Option Nat)) (h:Turn b b' w w'):Turn (b++c) (b'++c) w w' :=
 ⟨h.os,h.tape,h.output,h.size,fun k hk hn=>h.block k hk (fun h2=>hn (List.mem_append_left _ h2)),fun k hk=>by
   rcases List.mem_append.1 hk with h2 | h2
   ·exact (h.new k h2).imp (List.mem_append_left _) id
   ·exact .inl (List.mem_append_right _ h2)⟩
theorem Turn.right {w w':World} {b b':List (Option Nat)} (c:List (Option Nat)) (h:Turn b b' w w'):Turn (c++b) (c++b') w w' :=
 ⟨h.os,h.tape,h.output,h.size,fun k hk hn=>h.block k hk (fun h2=>hn (List.mem_append_right _ h2)),fun k hk=>by
   rcases List.mem_append.1 hk with h2 | h2
   ·exact .inl (List.mem_append_left _ h2)
   ·exact (h.new k h2).imp (List.mem_append_right _) id⟩
theorem Turn.wide {w w':World} {b b' c c':List (Option Nat)} (h:Turn b b' w w') (h1:∀ k,some k∈b→some k∈c) (h2:∀ k,some k∈c'→some k∈b'∨some k∈c):Turn c c' w w' :=
 ⟨h.os,h.tape,h.output,h.size,fun k hk hn=>h.block k hk (fun h3=>hn (h1 k h3)),fun k hk=>by
   rcases h2 k hk with h3 | h3
   ·exact (h.new k h3).imp (h1 k) id
   ·exact .inl h3⟩
theorem Turn.grown {w w':World} {m:Nat} (h:w.grownBy w' (some m)):Turn [some m] [some m] w w' :=
 ⟨h.os,h.tape,h.output,h.size,fun k hk hn=>h.block k hk (fun e=>hn (by rw [e];exact List.mem_singleton.2 rfl)),fun k hk=>.inl hk⟩
theorem Lm {g m1 m2 k:Nat}:some k∈lb g m1 m2↔k=g∨k=m1∨k=m2:=by
 simp [lb]
section
variable {w w':World} {b b':List (Option Nat)} {gd g m1 m2:Nat} {R:Rw}
theorem LR.ne1 (h:LR w b gd g m1 m2 R):g≠m1:=OX0 h.has h.map1
theorem LR.ne2 (h:LR w b gd g m1 m2 R):g≠m2:=OX0 h.has h.map2
theorem LR.off (h:LR w b gd g m1 m2 R):some g∉b∧some m1∉b∧some m2∉b :=
 ⟨fun h2=>h.apart g h2 (Lm.2 (.inl rfl)),fun h2=>h.apart m1 h2 (Lm.2 (.inr (.inl rfl))),fun h2=>h.apart m2 h2 (Lm.2 (.inr (.inr rfl)))⟩
theorem LR.lt (h:LR w b gd g m1 m2 R) {k:Nat} (hk:some k∈b++lb g m1 m2):k<w.heap.size:=by
 rcases List.mem_append.1 hk with h2 | h2
 ·exact h.disk.lt h2
 ·rcases Lm.1 h2 with rfl | rfl | rfl
  ·exact h.has.lt
  ·exact h.map1.lt
  ·exact h.map2.lt
theorem LR.below (h:LR w b gd g m1 m2 R) (hb:Below w.heap.size w w'):LR w' b gd g m1 m2 R :=
 ⟨h.disk.below hb,h.has.Aj hb,h.map1.below hb,h.map2.below hb,h.ne,h.apart⟩
theorem LR.far {c c':List (Option Nat)} (h:LR w b gd g m1 m2 R) (ht:Turn c c' w w') (hd:QR0 c (b++lb g m1 m2)):LR w' b gd g m1 m2 R :=
 ⟨h.disk.turn ht fun k hk h2=>hd k hk (List.mem_append_left _ h2),h.has.turn ht fun h2=>hd g h2 (List.mem_append_right _ (Lm.2 (.inl rfl))),
   h.map1.turn ht fun h2=>hd m1 h2 (List.mem_append_right _ (Lm.2 (.inr (.inl rfl)))),h.map2.turn ht fun h2=>hd m2 h2 (List.mem_append_right _ (Lm.2 (.inr (.inr rfl)))),h.ne,h.apart⟩
theorem LR.AI0 {D':Dk} (h:LR w b gd g m1 m2 R) (hD:DP w' b' gd D') (ht:Turn b b' w w'):LR w' b' gd g m1 m2 { R with D:=D' }∧Turn (b++lb g m1 m2) (b'++lb g m1 m2) w w':=by
 obtain ⟨h1,h2,h3⟩:=h.off
 refine ⟨⟨hD,h.has.turn ht h1,h.map1.turn ht h2,h.map2.turn ht h3,h.ne,fun k hk h4=>?_⟩,ht.left _⟩
 rcases ht.new k hk with h5 | h5
 ·exact h.apart k h5 h4
 ·have:=h.lt (List.mem_append_right b h4);omega
theorem Turn.cell (g i:Nat) (u:Value) (w:World):Turn [some g] [some g] w (w.setCell ⟨g,i,none⟩ u):=Turn.grown (grownBy_setCell ⟨g,i,none⟩ u)
theorem LR.set (h:LR w b gd g m1 m2 R) (i:Nat) (u:Value) (R':Rw) (hc:(CD0 gd m1 m2 R).setIfInBounds i u=CD0 gd m1 m2 R') (hD:R'.D=R.D) (h1:MP w m1 R'.nf R'.f1) (h2:MP w m2 R'.kf R'.f2) :
 LR (w.setCell ⟨g,i,none⟩ u) b gd g m1 m2 R'∧Turn (b++lb g m1 m2) (b++lb g m1 m2) w (w.setCell ⟨g,i,none⟩ u):=by
 have ht:=Turn.cell g i u w
 refine ⟨⟨hD ▸ h.disk.turn ht fun k hk h2=>?_,hc ▸ h.has.set i u,h1.turn ht fun h3=>?_,h2.turn ht fun h3=>?_,h.ne,h.apart⟩,ht.wide (fun k hk=>?_) (fun k hk=>.inr hk)⟩
 ·have:k=g:=by simpa using hk
  subst this;exact h.off.1 h2
 ·exact h.ne1 (by simpa using h3:m1=g).symm
 ·exact h.ne2 (by simpa using h3:m2=g).symm
 ·have:k=g:=by simpa using hk
  exact List.mem_append_right _ (Lm.2 (.inl this))
end
structure Fit (D:Dk) (k:Nat):Prop where
 ok:D.ok
 count:D.count+k≤4000000000000000000
 waits:D.waits.length+k≤1000000000
structure Oe (w:World) (g bl bs bn bf bp:Nat) (slot n f p:Nat):Prop where
 l:Has w bl 97 #[.pointer (some ⟨g,0,none⟩)]
 s:Has w bs 3 #[.int .i64 slot]
 n:Has w bn 3 #[.int .i64 n]
 f:Has w bf 3 #[.int .i64 f]
 p:Has w bp 3 #[.int .i64 p]
theorem Oe.below {w w':World} {g bl bs bn bf bp slot n f p:Nat} (h:Oe w g bl bs bn bf bp slot n f p) (hb:Below w.heap.size w w'):Oe w' g bl bs bn bf bp slot n f p :=
 ⟨h.l.Aj hb,h.s.Aj hb,h.n.Aj hb,h.f.Aj hb,h.p.Aj hb⟩
theorem Oe.cells {w:World} {g bl bs bn bf bp slot n f p:Nat} (h:Oe w g bl bs bn bf bp slot n f p) :
 w.cell? ⟨bl,0,none⟩=some (.pointer (some ⟨g,0,none⟩))∧w.cell? ⟨bs,0,none⟩=some (.int .i64 slot)∧w.cell? ⟨bn,0,none⟩=some (.int .i64 n)∧w.cell? ⟨bf,0,none⟩=some (.int .i64 f)∧w.cell? ⟨bp,0,none⟩=some (.int .i64 p) :=
 ⟨h.l.cell 0,h.s.cell 0,h.n.cell 0,h.f.cell 0,h.p.cell 0⟩
def YS0 (bl bs bn bf bp:Nat) (b:List (Option Nat)):Prop:=some bl∉b∧some bs∉b∧some bn∉b∧some bf∉b∧some bp∉b
theorem Oe.turn {w w':World} {b b':List (Option Nat)} {g bl bs bn bf bp slot n f p:Nat} (h:Oe w g bl bs bn bf bp slot n f p) (ht:Turn b b' w w') (ho:YS0 bl bs bn bf bp b):Oe w' g bl bs bn bf bp slot n f p :=
 ⟨h.l.turn ht ho.1,h.s.turn ht ho.2.1,h.n.turn ht ho.2.2.1,h.f.turn ht ho.2.2.2.1,h.p.turn ht ho.2.2.2.2⟩
theorem LR.cell0 {w:World} {b:List (Option Nat)} {gd g m1 m2:Nat} {R:Rw} (h:LR w b gd g m1 m2 R):w.cell? ⟨g,0,none⟩=some (.pointer (some ⟨gd,0,none⟩)):=h.has.cell 0
theorem XY0 (b:List (Option Nat)) (gd g m1 m2:Nat) (R:Rw) (bl bs bn bf bp slot n f p:Nat) (w:World) (h:LR w b gd g m1 m2 R) (hx:Oe w g bl bs bn bf bp slot n f p) (ho:YS0 bl bs bn bf bp b) (hfit:Fit R.D 1) (hs:slot<2) (hn:n≤4611686018427387904) (hf:f≤4611686018427387904) (hp:p≤4611686018427387904) :
 Calls Tryz.prog 190 #[.pointer (some ⟨bl,0,none⟩),.pointer (some ⟨bs,0,none⟩),.pointer (some ⟨bn,0,none⟩),.pointer (some ⟨bf,0,none⟩),.pointer (some ⟨bp,0,none⟩)] w
  (Qw w b gd (R.D.write 1 (16+24*slot:Nat) (bsOf (slotL n f p))) (.int .i64 (R.D.Pn 1 (16+24*slot:Nat) (bsOf (slotL n f p))))):=by
 have ST:=Ac (Um n f p hn hf hp)
 have TP:=Ac (fun b1 w1 (h1:DP w1 b1 gd R.D)=>Ze gd R.D b1 1 (16+24*slot:Nat) (bsOf (slotL n f p)) w1 h1 hfit.ok (by have:=hfit.count;omega) (by have:=hfit.waits;omega) (by rw [Bv,Ed];omega))
 obtain ⟨S,hS⟩:∃ S,bsOf (slotL n f p)=S:=⟨_,rfl⟩;rw [hS] at ST TP ⊢;obtain ⟨E,hE⟩:∃ x,R.D.Pn 1 (16+24*slot:Nat) S=x:=⟨_,rfl⟩;obtain ⟨D',hD⟩:∃ x,R.D.write 1 (16+24*slot:Nat) S=x:=⟨_,rfl⟩;rw [hE,hD] at TP ⊢;have HL:=Ac (h.below (Below.refl _ _).drew);have HX:=Ac (hx.below (Below.refl _ _).drew);have HB:=Ac ((Below.refl w.heap.size w).drew);obtain ⟨x0,x1,x2,x3,x4⟩:=hx.cells;have x5:=h.cell0;have HO:=Ac ho
 clear hS hE hD h hx hfit ho
 obtain rfl | rfl:slot=0∨slot=1:=by omega
 ·rw [show ((0:Nat):Int)=0 from rfl] at x1
  rw [show (((16+24*0:Nat)):Int)=IntKind.i64.wrap (16+IntKind.i64.wrap 0) by decide] at TP
  go_enter Tryz.func190,Tryz.ntmps190
  go_wp2_with fail
  go_region_held3 (fun w'=>w'.cell? ⟨bl,0,none⟩=some (.pointer (some ⟨g,0,none⟩))∧w'.cell? ⟨bs,0,none⟩=some (.int .i64 0)∧w'.cell? ⟨bn,0,none⟩=some (.int .i64 n)∧w'.cell? ⟨bf,0,none⟩=some (.int .i64 f)∧w'.cell? ⟨bp,0,none⟩=some (.int .i64 p)∧w'.cell? ⟨g,0,none⟩=some (.pointer (some ⟨gd,0,none⟩))) (first | exact ⟨z0,z1,z2,z3,z4,z5⟩ | exact ⟨y0,y1,y2,y3,y4,y5⟩ | go_keep)
   (first | (go_at_call 187;(with_reducible refine (ST.out _).mono ?_);rintro e w1 ⟨rfl,hb1⟩;have H1:=Ac (HL.out.below hb1);have HB1:=Ac (Am HB.out hb1 HB.out.size);obtain ⟨y0,y1,y2,y3,y4⟩:=(HX.out.below hb1).cells;have y5:=H1.out.cell0) | (go_at_call 172;(with_reducible refine (TP.out _ _ H1.out.disk).mono ?_);rintro e w2 ⟨rfl,b2,hd2,ht2⟩;have HD:=Ac hd2;have HT:=Ac ht2;obtain ⟨z0,z1,z2,z3,z4⟩:=((HX.out.below hb1).turn ht2 HO.out).cells;have z5:=(H1.out.AI0 hd2 ht2).1.cell0;clear hd2 ht2 hb1))
  go_wp2_with fail
  go_ret
  exact ⟨rfl,b2,HD.out,(Turn.below b HB1.out).trans HT.out⟩
 ·rw [show ((1:Nat):Int)=1 from rfl] at x1
  rw [show (((16+24*1:Nat)):Int)=IntKind.i64.wrap (16+IntKind.i64.wrap 24) by decide] at TP
  go_enter Tryz.func190,Tryz.ntmps190
  go_wp2_with fail
  go_region_held3 (fun w'=>w'.cell? ⟨bl,0,none⟩=some (.pointer (some ⟨g,0,none⟩))∧w'.cell? ⟨bs,0,none⟩=some (.int .i64 1)∧w'.cell? ⟨bn,0,none⟩=some (.int .i64 n)∧w'.cell? ⟨bf,0,none⟩=some (.int .i64 f)∧w'.cell? ⟨bp,0,none⟩=some (.int .i64 p)∧w'.cell? ⟨g,0,none⟩=some (.pointer (some ⟨gd,0,none⟩))) (first | exact ⟨z0,z1,z2,z3,z4,z5⟩ | exact ⟨y0,y1,y2,y3,y4,y5⟩ | go_keep)
   (first | (go_at_call 187;(with_reducible refine (ST.out _).mono ?_);rintro e w1 ⟨rfl,hb1⟩;have H1:=Ac (HL.out.below hb1);have HB1:=Ac (Am HB.out hb1 HB.out.size);obtain ⟨y0,y1,y2,y3,y4⟩:=(HX.out.below hb1).cells;have y5:=H1.out.cell0) | (go_at_call 172;(with_reducible refine (TP.out _ _ H1.out.disk).mono ?_);rintro e w2 ⟨rfl,b2,hd2,ht2⟩;have HD:=Ac hd2;have HT:=Ac ht2;obtain ⟨z0,z1,z2,z3,z4⟩:=((HX.out.below hb1).turn ht2 HO.out).cells;have z5:=(H1.out.AI0 hd2 ht2).1.cell0;clear hd2 ht2 hb1))
  go_wp2_with fail
  go_ret
  exact ⟨rfl,b2,HD.out,(Turn.below b HB1.out).trans HT.out⟩
theorem XH0 (b:List (Option Nat)) (gd g m1 m2:Nat) (R:Rw) (bl:Nat) (w:World) (h:LR w b gd g m1 m2 R) (hx:Has w bl 97 #[.pointer (some ⟨g,0,none⟩)]) (hfit:Fit R.D 1) :
 Calls Tryz.prog 191 #[.pointer (some ⟨bl,0,none⟩)] w (Qw w b gd (R.D.sync 1) (.int .i64 (R.D.Py 1))):=by
 have TP:=Ac (fun b1 w1 (h1:DP w1 b1 gd R.D)=>Yf gd R.D b1 1 w1 h1 hfit.ok (by have:=hfit.count;omega) (by have:=hfit.waits;omega))
 obtain ⟨E,hE⟩:∃ x,R.D.Py 1=x:=⟨_,rfl⟩;obtain ⟨D',hD⟩:∃ x,R.D.sync 1=x:=⟨_,rfl⟩;rw [hE,hD] at TP ⊢;have HL:=Ac h;have x0:=hx.cell 0;have x1:=h.cell0;clear hE hD h hx hfit
 go_enter Tryz.func191,Tryz.ntmps191
 go_wp2_with (go_at_call 119;(with_reducible refine (TP.out _ _ HL.out.disk).mono ?_);rintro e w2 ⟨rfl,hd2⟩;have HD:=Ac hd2;clear hd2)
 go_ret
 exact ⟨rfl,HD.out⟩
theorem PH0 (b:List (Option Nat)) (gd g m1 m2:Nat) (R:Rw) (bl:Nat) (w:World) (h:LR w b gd g m1 m2 R) (hx:Has w bl 97 #[.pointer (some ⟨g,0,none⟩)]) (hfit:Fit R.D 1) :
 Calls Tryz.prog 118 #[.pointer (some ⟨bl,0,none⟩)] w (Qw w b gd (R.D.sync 1) (.int .i64 (R.D.Py 1))):=by
 have TP:=Ac (fun b1 w1 (h1:DP w1 b1 gd R.D)=>Yf gd R.D b1 1 w1 h1 hfit.ok (by have:=hfit.count;omega) (by have:=hfit.waits;omega))
 obtain ⟨E,hE⟩:∃ x,R.D.Py 1=x:=⟨_,rfl⟩;obtain ⟨D',hD⟩:∃ x,R.D.sync 1=x:=⟨_,rfl⟩;rw [hE,hD] at TP ⊢;have HL:=Ac h;have x0:=hx.cell 0;have x1:=h.cell0;clear hE hD h hx hfit
 go_enter Tryz.func118,Tryz.ntmps118
 go_wp2_with (go_at_call 119;(with_reducible refine (TP.out _ _ HL.out.disk).mono ?_);rintro e w2 ⟨rfl,hd2⟩;have HD:=Ac hd2;clear hd2)
 go_ret
 exact ⟨rfl,HD.out⟩
def ES0 (u:World) (xs:List (Nat×TypeId×Array Value)):Prop:=∀ x∈xs,Has u x.1 x.2.1 x.2.2
def Off (xs:List (Nat×TypeId×Array Value)) (b:List (Option Nat)):Prop:=∀ x∈xs,some x.1∉b
theorem ES0.turn {u u':World} {xs:List (Nat×TypeId×Array Value)} {b b':List (Option Nat)} (h:ES0 u xs) (ht:Turn b b' u u') (ho:Off xs b):ES0 u' xs∧Off xs b' :=
 ⟨fun x hx=>(h x hx).turn ht (ho x hx),fun x hx h2=>by
   rcases ht.new x.1 h2 with h3 | h3
   ·exact ho x hx h3
   ·have:=(h x hx).lt;omega⟩
def upTo (Es:Nat→Int):Nat→Nat×Int
 | 0=>(0,0)
 | n+1=>if (upTo Es n).2≠0 then upTo Es n else (n+1,Es n)
theorem Ua {Es:Nat→Int} {i n:Nat} (hi:(upTo Es i).2≠0) (h:i≤n):upTo Es n=upTo Es i:=by
 induction n with
 | zero=>rw [show i=0 by omega]
 | succ n ih =>
   rcases Nat.lt_or_ge n i with h2 | h2
   ·rw [show i=n+1 by omega]
   ·have e:=ih h2
    rw [upTo,if_pos (by rw [e];exact hi),e]
theorem Fg {Es:Nat→Int} {i:Nat} (hi:upTo Es i=(i,0)):upTo Es (i+1)=(i+1,Es i):=by
 rw [upTo,if_neg (by rw [hi];simp)]
def Held (w0:World) (b0:List (Option Nat)) (gd g m1 m2:Nat) (xs:List (Nat×TypeId×Array Value)) (R:Rw) (u:World):Prop :=
 ∃ b',LR u b' gd g m1 m2 R∧ES0 u xs∧Off xs (b'++lb g m1 m2)∧Turn (b0++lb g m1 m2) (b'++lb g m1 m2) w0 u
def Fa (u:World) (b:List (Option Nat)) (gd g m1 m2:Nat) (R':Rw) (E:Int) (e:Ending) (w':World):Prop :=
 e = .returned (.int .i64 E)∧∃ b',LR w' b' gd g m1 m2 R'∧Turn (b++lb g m1 m2) (b'++lb g m1 m2) u w'
theorem Fa.XC0 {u:World} {b:List (Option Nat)} {gd g m1 m2:Nat} {R:Rw} {D':Dk} {E:Int} {e:Ending} {w':World} (h:LR u b gd g m1 m2 R) (hp:Qw u b gd D' (.int .i64 E) e w'):Fa u b gd g m1 m2 { R with D:=D' } E e w':=by
 obtain ⟨he,b',hd,ht⟩:=hp;obtain ⟨h1,h2⟩:=h.AI0 hd ht;exact ⟨he,b',h1,h2⟩
theorem MC0 (fs:List (FuncId×Array Value)) (gs n:Nat) (w0:World) (b0:List (Option Nat)) (gd g m1 m2:Nat) (xs:List (Nat×TypeId×Array Value)) (Rs:Nat→Rw) (Es:Nat→Int) (t:TypeId) (w:World)
 (hn:fs.length=n) (hn4:n≤4) (hgs:(gs,t,(fs.map (fun x=>Value.func (.func x.1) #[] x.2)).toArray)∈xs) (h0:Held w0 b0 gd g m1 m2 xs (Rs 0) w)
 (hrun:∀ (i:Nat) k cs,fs[i]? = some (k,cs)→∀ u,(callFunc k cs).run Tryz.prog u = .ok (.enter k cs) u)
 (hstep:∀ (i:Nat) k cs,fs[i]? = some (k,cs)→∀ u b',LR u b' gd g m1 m2 (Rs i)→ES0 u xs→Off xs (b'++lb g m1 m2)→upTo Es i=(i,0)→Calls Tryz.prog k cs u (Fa u b' gd g m1 m2 (Rs (i+1)) (Es i))) :
 Calls Tryz.prog 116 #[.slice (some ⟨gs,0,none⟩) n n] w fun e w'=>e = .returned (.int .i64 (upTo Es n).2)∧Held w0 b0 gd g m1 m2 xs (Rs (upTo Es n).1) w':=by
 refine (QO0 fs gs n w (fun i u=>i≤n∧upTo Es i=(i,0)∧Held w0 b0 gd g m1 m2 xs (Rs i) u) (fun r u=>r=(upTo Es n).2∧Held w0 b0 gd g m1 m2 xs (Rs (upTo Es n).1) u) hn hn4 ?_ hrun ?_ ?_ ⟨Nat.zero_le _,rfl,h0⟩).mono ?_
 ·rintro i u ⟨_,_,b',_,hx,_,_⟩ j k cs hj
  have:=(hx _ hgs).cell j;simp only at this;rw [this];simp [hj]
 ·rintro i k cs hi u ⟨hin,hu,b',hl,hx,ho,ht⟩
  have hlt:i<n:=by
   have:=(List.getElem?_eq_some_iff.1 hi).1;omega
  refine (hstep i k cs hi u b' hl hx ho hu).mono ?_
  rintro e w' ⟨rfl,b'',hl2,ht2⟩;obtain ⟨hx2,ho2⟩:=hx.turn ht2 ho;have hH:Held w0 b0 gd g m1 m2 xs (Rs (i+1)) w':=⟨b'',hl2,hx2,ho2,ht.trans ht2⟩;have hu2:=Fg hu
  refine ⟨Es i,rfl, ?_⟩
  by_cases hz:Es i=0
  ·exact .inl ⟨hz,hlt,by rw [hu2,hz],hH⟩
  ·have e2:upTo Es n=(i+1,Es i):=by
    rw [← hu2]
    exact Ua (by rw [hu2];exact hz) hlt
   exact .inr ⟨hz,by rw [e2],by rw [e2];exact hH⟩
 ·rintro u ⟨_,hu,hH⟩
  rw [hu];exact ⟨rfl,hH⟩
 ·rintro e w' ⟨r,rfl,rfl,hH⟩
  exact ⟨rfl,hH⟩
def Rw.Bi (R:Rw) (f p:Nat):Dk:=R.D.write 1 (16+24*(1-R.slot):Nat) (bsOf (slotL (R.number % 3+1) f p))
def Rw.Xt (R:Rw) (f p:Nat):Int:=R.D.Pn 1 (16+24*(1-R.slot):Nat) (bsOf (slotL (R.number % 3+1) f p))
def Rw.tell (R:Rw) (f p:Nat):Rw :=
 if R.Xt f p≠0 then { R with D:=R.Bi f p }
 else if (R.Bi f p).Py 1≠0 then { R with D:=(R.Bi f p).sync 1 }
 else { R with D:=(R.Bi f p).sync 1,slot:=1-R.slot,number:=R.number % 3+1 }
def Rw.Gl (R:Rw) (f p:Nat):Int:=if R.Xt f p≠0 then R.Xt f p else (R.Bi f p).Py 1
def NR0 (R:Rw) (f p:Nat):Nat→Rw
 | 0=>R
 | 1=>{ R with D:=R.Bi f p }
 | _=>{ R with D:=(R.Bi f p).sync 1 }
def Vr (R:Rw) (f p:Nat):Nat→Int
 | 0=>R.Xt f p
 | _=>(R.Bi f p).Py 1
theorem DE1 (R:Rw) (f p:Nat):(upTo (Vr R f p) 2).2=R.Gl f p:=by
 unfold Rw.Gl
 by_cases h:R.Xt f p=0
 ·rw [if_neg (by simpa using h)]
  have e:upTo (Vr R f p) 1=(1,0):=by rw [Fg rfl];show (0+1,R.Xt f p)=_;rw [h]
  rw [Fg e];rfl
 ·rw [if_pos h]
  have e:upTo (Vr R f p) 1=(1,R.Xt f p):=Fg rfl
  rw [Ua (i:=1) (by rw [e];exact h) (by omega),e]
theorem BP1 (R:Rw) (f p:Nat) (hx:R.Gl f p≠0):R.tell f p=NR0 R f p (upTo (Vr R f p) 2).1:=by
 unfold Rw.Gl at hx;unfold Rw.tell
 by_cases h:R.Xt f p=0
 ·rw [if_neg (by simpa using h)] at hx ⊢
  have e:upTo (Vr R f p) 1=(1,0):=by rw [Fg rfl];show (0+1,R.Xt f p)=_;rw [h]
  rw [Fg e,if_pos hx];rfl
 ·rw [if_pos h]
  have e:upTo (Vr R f p) 1=(1,R.Xt f p):=Fg rfl
  rw [Ua (i:=1) (by rw [e];exact h) (by omega),e];rfl
theorem VB0 (R:Rw) (f p:Nat) (hx:R.Gl f p=0):R.tell f p={ NR0 R f p 2 with slot:=1-R.slot,number:=R.number % 3+1 }∧(upTo (Vr R f p) 2).1=2:=by
 unfold Rw.Gl at hx;unfold Rw.tell
 by_cases h:R.Xt f p=0
 ·rw [if_neg (by simpa using h)] at hx ⊢
  have e:upTo (Vr R f p) 1=(1,0):=by rw [Fg rfl];show (0+1,R.Xt f p)=_;rw [h]
  rw [Fg e,if_neg (by simpa using hx)];exact ⟨rfl,rfl⟩
 ·rw [if_pos h] at hx;exact absurd hx h
theorem MZ0 (cs:Array Value) (u:World):(callFunc 190 cs).run Tryz.prog u = .ok (.enter 190 cs) u:=by kernel_rfl
theorem NO0 (cs:Array Value) (u:World):(callFunc 191 cs).run Tryz.prog u = .ok (.enter 191 cs) u:=by kernel_rfl
def PR0 (N bs bn:Nat):List (FuncId×Array Value):=[(190,#[.pointer (some ⟨N,0,none⟩),.pointer (some ⟨bs,0,none⟩),.pointer (some ⟨bn,0,none⟩),.pointer (some ⟨N+1,0,none⟩),.pointer (some ⟨N+1+1,0,none⟩)]),(191,#[.pointer (some ⟨N,0,none⟩)])]
def Lh (gs N bs bn g slot n f p:Nat):List (Nat×TypeId×Array Value) :=
 [(gs,50,((PR0 N bs bn).map (fun x=>Value.func (.func x.1) #[] x.2)).toArray),(N,97,#[.pointer (some ⟨g,0,none⟩)]),(bs,3,#[.int .i64 slot]),(bn,3,#[.int .i64 n]),(N+1,3,#[.int .i64 f]),(N+1+1,3,#[.int .i64 p])]
theorem Za {u:World} {gs N bs bn g slot n f p:Nat} (h:ES0 u (Lh gs N bs bn g slot n f p)):Oe u g N bs bn (N+1) (N+1+1) slot n f p :=
 ⟨h (N,_,_) (by simp [Lh]),h (bs,_,_) (by simp [Lh]),h (bn,_,_) (by simp [Lh]),h (N+1,_,_) (by simp [Lh]),h (N+1+1,_,_) (by simp [Lh])⟩
theorem UN0 {gs N bs bn g slot n f p:Nat} {b c:List (Option Nat)} (h:Off (Lh gs N bs bn g slot n f p) (b++c)):YS0 N bs bn (N+1) (N+1+1) b :=
 ⟨fun h2=>h (N,97,#[.pointer (some ⟨g,0,none⟩)]) (by simp [Lh]) (List.mem_append_left _ h2),fun h2=>h (bs,3,#[.int .i64 slot]) (by simp [Lh]) (List.mem_append_left _ h2),fun h2=>h (bn,3,#[.int .i64 n]) (by simp [Lh]) (List.mem_append_left _ h2),fun h2=>h (N+1,3,#[.int .i64 f]) (by simp [Lh]) (List.mem_append_left _ h2),fun h2=>h (N+1+1,3,#[.int .i64 p]) (by simp [Lh]) (List.mem_append_left _ h2)⟩
theorem Fit.less {D:Dk} {k m:Nat} (h:Fit D k) (hm:m≤k):Fit D m:=⟨h.ok,by have:=h.count;omega,by have:=h.waits;omega⟩
theorem GE0 (D:Dk):D.turn.count≤D.count+1:=by unfold Dk.turn;split <;> simp
theorem FR0 {D:Dk} {k:Nat} (h:Fit D (k+1)) {c:Ch} (hc:c.fits):Fit (D.change c) k:=by
 refine ⟨Dk.DM0 h.ok hc, ?_, ?_⟩
 ·have:=h.count;have:=GE0 D
  unfold Dk.change;split
  ·omega
  ·show D.turn.count+k≤_;omega
 ·have:=h.waits
  unfold Dk.change;split
  ·have:D.turn.waits=D.waits:=by unfold Dk.turn;split <;> rfl
   rw [this];omega
  ·show (D.waits++[c]).length+k≤_;rw [List.length_append];simp;omega
theorem Fit.write {D:Dk} {k:Nat} (h:Fit D (k+1)) (f a:Int) (s:ByteArray):Fit (D.write f a s) k:=by
 unfold Dk.write
 split
 ·rename_i hf
  obtain ⟨h1,h2,h3,h4,h5,h6⟩:=hf
  exact FR0 h ⟨by show f.toNat<2;omega,by show a.toNat≤_;omega,by show a.toNat+s.size≤_;omega,fun h=>by cases h⟩
 ·exact h.less (by omega)
theorem GQ0 (b:List (Option Nat)) (gd g m1 m2:Nat) (R:Rw) (f p gs bs bn:Nat) (w wc:World) (h:LR w b gd g m1 m2 R) (hfit:Fit R.D 2) (hs:R.slot<2) (hnum:R.number<4) (hf:f≤4611686018427387904) (hp:p≤4611686018427387904)
 (hb:Below w.heap.size w wc) (hx:ES0 wc (Lh gs w.heap.size bs bn g (1-R.slot) (R.number % 3+1) f p)) (hbs:w.heap.size≤bs) (hbn:w.heap.size≤bn) (hgs:w.heap.size≤gs) :
 Calls Tryz.prog 116 #[.slice (some ⟨gs,0,none⟩) 2 2] wc fun e w'=>e = .returned (.int .i64 (R.Gl f p))∧Held w b gd g m1 m2 (Lh gs w.heap.size bs bn g (1-R.slot) (R.number % 3+1) f p) (NR0 R f p (upTo (Vr R f p) 2).1) w':=by
 rw [← DE1]
 refine MC0 (PR0 w.heap.size bs bn) gs 2 w b gd g m1 m2 _ (NR0 R f p) (Vr R f p) 50 wc rfl (by omega) (by simp [Lh]) ⟨b,h.below hb,hx, ?_,Turn.below _ hb⟩ ?_ ?_
 ·intro x hx2 h2
  have h3:=h.lt h2;simp only [Lh,List.mem_cons,List.not_mem_nil,or_false] at hx2
  rcases hx2 with rfl | rfl | rfl | rfl | rfl | rfl <;> simp only at h3 <;> omega
 ·intro i k cs hi u
  match i,hi with
  | 0,hi=>cases hi;exact MZ0 _ _
  | 1,hi=>cases hi;exact NO0 _ _
 ·intro i k cs hi u b' hl hx2 ho hu
  match i,hi with
  | 0,hi =>
    cases hi
    exact (XY0 b' gd g m1 m2 R _ bs bn _ _ (1-R.slot) (R.number % 3+1) f p u hl (Za hx2) (UN0 ho) (hfit.less (by omega)) (by omega) (by omega) hf hp).mono fun e w' hp=>Fa.XC0 hl hp
  | 1,hi =>
    cases hi
    exact (XH0 b' gd g m1 m2 _ _ u hl (Za hx2).l ((show Fit (R.D.write 1 (16+24*(1-R.slot):Nat) (bsOf (slotL (R.number % 3+1) f p))) 1 from hfit.write _ _ _))).mono fun e w' hp=>Fa.XC0 (R:=NR0 R f p 1) hl hp
theorem BU1 (b:List (Option Nat)) (gd g m1 m2:Nat) (R:Rw) (f p:Nat) (w:World) (h:LR w b gd g m1 m2 R) (hfit:Fit R.D 2) (hs:R.slot<2) (hnum:R.number<4) (hf:f≤4611686018427387904) (hp:p≤4611686018427387904) :
 Calls Tryz.prog 121 #[.pointer (some ⟨g,0,none⟩),.int .i64 f,.int .i64 p] w (Fa w b gd g m1 m2 (R.tell f p) (R.Gl f p)):=by
 obtain ⟨E,hE⟩:∃ E,R.Gl f p=E:=⟨_,rfl⟩;rw [hE];have EE:=Ac hE;clear hE;have HL:=Ac h;have HF:=Ac hfit
 have W3:=Ac (show Has (((w.alloc (.cells #[.pointer (some ⟨g,0,none⟩)] 97)).alloc (.cells #[.int .i64 f] 3)).alloc (.cells #[.int .i64 p] 3)) w.heap.size 97 #[.pointer (some ⟨g,0,none⟩)] ∧
  Has (((w.alloc (.cells #[.pointer (some ⟨g,0,none⟩)] 97)).alloc (.cells #[.int .i64 f] 3)).alloc (.cells #[.int .i64 p] 3)) (w.heap.size+1) 3 #[.int .i64 f] ∧
  Has (((w.alloc (.cells #[.pointer (some ⟨g,0,none⟩)] 97)).alloc (.cells #[.int .i64 f] 3)).alloc (.cells #[.int .i64 p] 3)) (w.heap.size+2) 3 #[.int .i64 p] ∧
  Below w.heap.size w (((w.alloc (.cells #[.pointer (some ⟨g,0,none⟩)] 97)).alloc (.cells #[.int .i64 f] 3)).alloc (.cells #[.int .i64 p] 3)) ∧
  (((w.alloc (.cells #[.pointer (some ⟨g,0,none⟩)] 97)).alloc (.cells #[.int .i64 f] 3)).alloc (.cells #[.int .i64 p] 3)).heap.size=w.heap.size+3 by
  have a1:=Has.new w 97 #[.pointer (some ⟨g,0,none⟩)];have a2:=Has.new (w.alloc (.cells #[.pointer (some ⟨g,0,none⟩)] 97)) 3 #[.int .i64 f];have a3:=Has.new ((w.alloc (.cells #[.pointer (some ⟨g,0,none⟩)] 97)).alloc (.cells #[.int .i64 f] 3)) 3 #[.int .i64 p];rw [World.size_alloc] at a2;rw [World.size_alloc,World.size_alloc] at a3
  exact ⟨(a1.alloc _).alloc _,a2.alloc _,a3,(((Below.refl _ _).alloc (Nat.le_refl _) _).alloc (by simp) _).alloc (by simp;omega) _,by simp⟩)
 clear h hfit
 go_enter Tryz.func121,Tryz.ntmps121
 go_upto_region 1 with fail
 generalize ((w.alloc (.cells #[.pointer (some ⟨g,0,none⟩)] 97)).alloc (.cells #[.int .i64 f] 3)).alloc (.cells #[.int .i64 p] 3)=W at *
 obtain ⟨hl,hbf,hbp,hbw,hsz⟩:=W3.out;have HLL:=Ac hl;have HBF:=Ac hbf;have HBP:=Ac hbp;have HBW:=Ac hbw;have HSZ:=Ac hsz;have HLW:=Ac (HL.out.below hbw);have c7:W.cell? ⟨g,7,none⟩=some (.int .i64 R.slot):=HLW.out.has.cell 7;have c8:W.cell? ⟨g,8,none⟩=some (.int .i64 R.number):=HLW.out.has.cell 8;have gz:=HLW.out.has.lt;have cl:W.cell? ⟨w.heap.size,0,none⟩=some (.pointer (some ⟨g,0,none⟩)):=hl.cell 0
 have lz:=hl.lt;clear hl hbf hbp hbw W3 hsz
 go_cut [7,8] (fun s7 s8 wx=>∃ bs bn,s7 = .pointer (some ⟨bs,0,none⟩)∧s8 = .pointer (some ⟨bn,0,none⟩)∧Oe wx g w.heap.size bs bn (w.heap.size+1) (w.heap.size+2) (1-R.slot) (R.number % 3+1) f p∧Below W.heap.size W wx∧W.heap.size≤bs∧W.heap.size≤bn)
 case first =>
  have N1:=Ac (show ((1-R.slot:Nat):Int)=1-(R.slot:Int)∧((R.number % 3+1:Nat):Int)=(R.number:Int) % 3+1 from ⟨by omega,by omega⟩)
  have A1:=Ac (fun x y=>((Has.new W 3 #[x]).alloc (.cells #[y] 3)).drew)
  have A2:=Ac (show ∀ x y,Has ((W.alloc (.cells #[x] 3)).alloc (.cells #[y] 3)).drew (W.heap.size+1) 3 #[y] from fun x y=>by
   have:=Has.new (W.alloc (.cells #[x] 3)) 3 #[y];rw [World.size_alloc] at this
   exact this.drew)
  have AB:=Ac (fun x y=>(((Below.refl W.heap.size W).alloc (Nat.le_refl _) (.cells #[x] 3)).alloc (by simp) (.cells #[y] 3)).drew)
  go_region
  ·go_wp2_with fail
   go_meet
   have hb:=AB.out (.int .i64 (1-R.slot)) (.int .i64 (R.number % 3+1))
   refine ⟨_,_,rfl,rfl,⟨HLL.out.Aj hb, ?_, ?_,HBF.out.Aj hb,HBP.out.Aj hb⟩,hb,Nat.le_refl _,Nat.le_succ _⟩
   ·rw [N1.out.1];exact A1.out _ _
   ·rw [N1.out.2];exact A2.out _ _
  ·go_wp2_with fail
   go_meet
   have hb:=AB.out (.int .i64 (R.number % 3+1)) (.int .i64 (1-R.slot))
   refine ⟨_,_,rfl,rfl,⟨HLL.out.Aj hb, ?_, ?_,HBF.out.Aj hb,HBP.out.Aj hb⟩,hb,Nat.le_succ _,Nat.le_refl _⟩
   ·rw [N1.out.1];exact A2.out _ _
   ·rw [N1.out.2];exact A1.out _ _
 case rest =>
  obtain ⟨bs,bn,rfl,rfl,htb,hb,hbs,hbn⟩:=hcut;have HTB:=Ac htb;have HBC:=Ac hb;clear htb hb c7 c8 gz cl lz
  have hbw:=HBW.out.trans (Below.mono HBC.out (by have:=HSZ.out;omega))
  have hbg:=(hbw.alloc hbw.size (.cells ((PR0 w.heap.size bs bn).map (fun x=>Value.func (.func x.1) #[] x.2)).toArray 50))
  have CH:=Ac (GQ0 b gd g m1 m2 R f p wc.heap.size bs bn w (wc.alloc (.cells ((PR0 w.heap.size bs bn).map (fun x=>Value.func (.func x.1) #[] x.2)).toArray 50)) HL.out HF.out hs hnum hf hp hbg (by
   have ht:=HTB.out;intro x hx2;simp only [Lh,List.mem_cons,List.not_mem_nil,or_false] at hx2
   rcases hx2 with rfl | rfl | rfl | rfl | rfl | rfl
   ·exact Has.new _ _ _
   ·exact ht.l.alloc _
   ·exact ht.s.alloc _
   ·exact ht.n.alloc _
   ·exact ht.f.alloc _
   ·exact ht.p.alloc _) (by have:=HSZ.out;omega) (by have:=HSZ.out;omega) hbw.size)
  have TB:=Ac (BP1 R f p);have TG:=Ac (VB0 R f p);rw [EE.out] at CH TB TG;clear hbw hbg HTB HBC HBW HLL HBF HBP HLW HSZ hbs hbn
  go_wp2_with ((go_at_call 116;refine CH.out.mono ?_);rintro e w2 ⟨rfl,hH⟩;have HH:=Ac hH;clear hH)
  ·rename_i hE0
   have hE1:E=0:=by simpa using hE0
   obtain ⟨tg,up⟩:=TG.out hE1;have hh:=HH.out;rw [up] at hh;obtain ⟨b',hl,hx,ho,ht⟩:=hh;have HL2:=Ac hl;have HT2:=Ac ht;have TG2:=Ac tg;have HE1:=Ac hE1;obtain ⟨x0,x1,x2,_,_⟩:=(Za hx).cells;have y7:w2.cell? ⟨g,7,none⟩=some (.int .i64 R.slot):=hl.has.cell 7;have y8:w2.cell? ⟨g,8,none⟩=some (.int .i64 R.number):=hl.has.cell 8;have yf:=hl.has.frozen;have gz:=hl.has.lt;clear TG TB CH HH EE tg up hl hx ho ht hE0 hE1
   go_region
   all_goals
    go_wp2_with fail
    go_ret
    obtain ⟨h3,t3⟩:=HL2.out.set 7 (.int .i64 ((1-R.slot:Nat):Int)) { NR0 R f p 2 with slot:=1-R.slot } rfl rfl HL2.out.map1 HL2.out.map2
    obtain ⟨h4,t4⟩:=h3.set 8 (.int .i64 ((R.number % 3+1:Nat):Int)) { NR0 R f p 2 with slot:=1-R.slot,number:=R.number % 3+1 } rfl rfl h3.map1 h3.map2
    rw [show ((R.number % 3+1:Nat):Int)=(R.number:Int) % 3+1 by omega] at h4 t4
    rw [TG2.out];exact ⟨rfl,b',h4.below (Below.refl _ _).drew,((HT2.out.trans t3).trans t4).trans (Turn.below _ (Below.refl _ _).drew)⟩
  ·rename_i hE0
   have hE1:E≠0:=by simpa using hE0
   obtain ⟨b',hl,hx,ho,ht⟩:=HH.out
   go_ret
   exact ⟨rfl,b',(TB.out hE1) ▸ hl,ht⟩
theorem wfI {x:Int} (h1 : -9223372036854775808≤x) (h2:x≤9223372036854775807):(Lit.int .i64 x).wf=true:=WalkArith.wf_i64 ⟨by omega,by omega⟩
theorem MP.put {w:World} {b n:Nat} {f:Int→Nat} (h:MP w b n f) (hn:n≤1000000) (k:Int) (c:Nat) (hk:(Lit.int .i64 k).wf=true) (hc:c≤4611686018427387904) :
 ∃ w',(Instr.mapUpdate 104 (.map (some b)) (.int .i64 k) (.int .i64 c)).run Tryz.prog w = .ok () w'∧MP w' b (n+1) (fun y=>if y=k then c else f y)∧w.grownBy w' (some b):=by
 obtain ⟨D,h1,h2⟩:=h
 obtain ⟨w',hr,h3,h4⟩:=h1.update Sj Tryz.underlying104 (by unfold maxLen;omega) (keyOf_int_mk Tryz.underlying3 hk) (plainElem_int Tryz.underlying3 (wfI (x:=(c:Int)) (by omega) (by omega)))
 refine ⟨w',hr,⟨_,h3,fun x=>?_⟩,h4⟩
 by_cases hx:x=k
 ·subst hx
  show _=DataW.lit (Lit.int .i64 ((if x=x then c else f x:Nat):Int))
  rw [if_pos rfl];exact atKey_put_same (k:=.int .i64 x) h1.isMap trivial _ _
 ·show _=DataW.lit (Lit.int .i64 ((if x=k then c else f x:Nat):Int))
  rw [if_neg hx,atKey_put_other (by intro e;cases e;exact hx rfl)]
  exact h2 x
def Rw.at_ (R:Rw):Nat:=64+1028*R.nf
def frB (n:Int) (t:ByteArray):ByteArray:=bsOf (Fr.bytes ⟨n.toNat,t⟩)
def Pq (n:Int) (t:ByteArray):Prop:=0≤n∧n≤2147483647∧t.size=1024
instance (n:Int) (t:ByteArray):Decidable (Pq n t):=by unfold Pq;infer_instance
def Rw.app (R:Rw) (n:Int) (t:ByteArray):Rw :=
 if Pq n t∧R.at_+1028≤67108864 then
  if R.D.Pn 1 R.at_ (frB n t)=0 then { R with D:=R.D.write 1 R.at_ (frB n t),nf:=R.nf+1,f1:=fun y=>if y=n then R.nf+1 else R.f1 y }
  else { R with D:=R.D.write 1 R.at_ (frB n t) }
 else R
def Rw.UC0 (R:Rw) (n:Int) (t:ByteArray):Int:=if Pq n t then (if R.at_+1028≤67108864 then R.D.Pn 1 R.at_ (frB n t) else 8) else 1
theorem MP.mono {w:World} {b n m:Nat} {f:Int→Nat} (h:MP w b n f) (hn:n≤m):MP w b m f:=by
 obtain ⟨D,h1,h2⟩:=h;exact ⟨D,h1.mono hn,h2⟩
theorem LR.EQ1 {w w':World} {b:List (Option Nat)} {gd g m1 m2:Nat} {R:Rw} (h:LR w b gd g m1 m2 R) (hg:w.grownBy w' (some m1)) (R':Rw) (hc:CD0 gd m1 m2 R=CD0 gd m1 m2 R') (hD:R'.D=R.D) (h1:MP w' m1 R'.nf R'.f1) (h2:MP w m2 R'.kf R'.f2) :
 LR w' b gd g m1 m2 R'∧Turn (b++lb g m1 m2) (b++lb g m1 m2) w w':=by
 have ht:=Turn.grown hg
 refine ⟨⟨hD ▸ h.disk.turn ht fun k hk h2=>?_,hc ▸ h.has.grown hg (fun e=>h.ne1 (Option.some.inj e)),h1,h2.turn ht fun h3=>?_,h.ne,h.apart⟩,ht.wide (fun k hk=>?_) (fun k hk=>.inr hk)⟩
 ·have:k=m1:=by simpa using hk
  subst this;exact h.off.2.1 h2
 ·exact h.ne (by simpa using h3:m2=m1).symm
 ·have:k=m1:=by simpa using hk
  exact List.mem_append_right _ (Lm.2 (.inr (.inl this)))
theorem Fa.refl {u:World} {b:List (Option Nat)} {gd g m1 m2:Nat} {R:Rw} {E:Int} (h:LR u b gd g m1 m2 R):Fa u b gd g m1 m2 R E (.returned (.int .i64 E)) u:=⟨rfl,b,h,Turn.refl _ _⟩
theorem FG0 (b:List (Option Nat)) (gd g m1 m2:Nat) (R:Rw) (n:Int) (t:ByteArray) (w:World) (h:LR w b gd g m1 m2 R) (hfit:Fit R.D 1) (hnf:R.nf≤100000) :
 Calls Tryz.prog 98 #[.pointer (some ⟨g,0,none⟩),.int .i64 n,.string t] w (Fa w b gd g m1 m2 (R.app n t) (R.UC0 n t)):=by
 have HL:=Ac h;have x0:=h.cell0;have x1:w.cell? ⟨g,1,none⟩=some (.int .i64 R.nf):=h.has.cell 1;have x3:w.cell? ⟨g,3,none⟩=some (.map (some m1)):=h.has.cell 3;have xf:=h.has.frozen;have HF:=Ac hfit;clear h hfit
 by_cases hA:Pq n t
 ·by_cases hr:R.at_+1028≤67108864
  ·have EA:=Ac (show R.app n t=if R.D.Pn 1 R.at_ (frB n t)=0 then { R with D:=R.D.write 1 R.at_ (frB n t),nf:=R.nf+1,f1:=fun y=>if y=n then R.nf+1 else R.f1 y } else { R with D:=R.D.write 1 R.at_ (frB n t) } from if_pos ⟨hA,hr⟩)
   have EE:=Ac (show R.UC0 n t=R.D.Pn 1 R.at_ (frB n t) by unfold Rw.UC0;rw [if_pos hA,if_pos hr])
   rw [EE.out];obtain ⟨h1,h2,h3⟩:=hA;unfold Rw.at_ at hr
   have TP:=Ac (fun b1 w1 (h1:DP w1 b1 gd R.D)=>Ze gd R.D b1 1 R.at_ (frB n t) w1 h1 HF.out.ok (by have:=HF.out.count;omega) (by have:=HF.out.waits;omega) (by unfold frB;rw [Bv,Fr.Gx _ h3];omega))
   have FO:=Ac (BD0 n.toNat (by omega))
   have HS:=Ac (show frB n t=bsOf (beK n.toNat 4)++t by unfold frB Fr.bytes;rw [← Ri,IE0])
   rw [HS.out] at TP EA EE ⊢;obtain ⟨s1,hs1⟩:∃ s,bsOf (beK n.toNat 4)=s:=⟨_,rfl⟩
   have z1:s1.size=4:=by rw [← hs1,Bv,Az]
   rw [hs1] at TP FO EA EE ⊢
   rw [show ((n.toNat:Nat):Int)=n from Int.toNat_of_nonneg h1] at FO
   obtain ⟨E,hE⟩:∃ x,R.D.Pn 1 R.at_ (s1++t)=x:=⟨_,rfl⟩;obtain ⟨D',hD⟩:∃ x,R.D.write 1 R.at_ (s1++t)=x:=⟨_,rfl⟩;rw [hE,hD] at TP EA;rw [hE];have H3:=Ac h3
   have z3:(t.size:Int)=1024:=by omega
   have H1:=Ac h1;have H2:=Ac h2;have HR:=Ac hr
   have d1:decide (n<0)=false:=by simp;omega
   have d2:decide ((2147483648:Int)≤n)=false:=by simp;omega
   have d3:decide ((67108864:Int)<64+(R.nf:Int)*1028+1028)=false:=by simp;omega
   clear hE hD HS hs1 EE h3 h1 h2 hr
   go_enter Tryz.func98,Tryz.ntmps98
   go_wp2_with fail
   have HLD:=Ac (HL.out.below (Below.refl _ _).drew);have HB:=Ac ((Below.refl w.heap.size w).drew)
   rw [show ((R.at_:Nat):Int)=64+(R.nf:Int)*1028 by unfold Rw.at_;omega] at TP
   go_region_with
    (first | (go_at_call 173;(with_reducible refine (FO.out _).mono ?_);rintro e w1 ⟨rfl,hb1⟩;have HL1:=Ac (HLD.out.below hb1);have HB1:=Ac (Am HB.out hb1 HB.out.size);have y1:=HL1.out.cell0) | (go_at_call 172;(with_reducible refine (TP.out _ _ HL1.out.disk).mono ?_);rintro e w2 ⟨rfl,b2,hd2,ht2⟩;obtain ⟨hl2,ht3⟩:=HL1.out.AI0 hd2 ht2;have HL2:=Ac hl2;have HT2:=Ac ((Turn.below _ HB1.out).trans ht3);have y0:=hl2.cell0;clear hd2 ht2 hl2 ht3 hb1))
   all_goals
    by_cases hE0:E=0
    ·subst hE0
     have EA2:=Ac (EA.out.trans (if_pos rfl));have y1:w2.cell? ⟨g,1,none⟩=some (.int .i64 R.nf):=HL2.out.has.cell 1;have y3:w2.cell? ⟨g,3,none⟩=some (.map (some m1)):=HL2.out.has.cell 3;have yf:=HL2.out.has.frozen;have yz:=HL2.out.has.lt
     have HSET:=Ac (HL2.out.set 1 (.int .i64 (R.nf+1:Nat)) { R with D:=D',nf:=R.nf+1 } rfl rfl (HL2.out.map1.mono (Nat.le_succ _)) HL2.out.map2)
     rw [show ((R.nf+1:Nat):Int)=(R.nf:Int)+1 from rfl] at HSET
     have HM1:=Ac (show MP (w2.setCell ⟨g,1,none⟩ (.int .i64 ((R.nf:Int)+1))) m1 R.nf R.f1 from HL2.out.map1.block (Below.heap_setCell _ _ _ _ HL2.out.ne1.symm))
     clear EA x0 x1 x3 xf y0 HLD HB HL1 HB1
     go_upto_region 10 with fail
     have WN:=Ac (wfI (x:=n) (by have:=H1.out;omega) (by have:=H2.out;omega))
     obtain ⟨w3,hrun,hm3,hg3⟩:=(show MP (w2.setCell ⟨g,1,none⟩ (.int .i64 ((R.nf:Int)+1))).drew m1 R.nf R.f1 from HM1.out.block rfl).put (by omega) n (R.nf+1) WN.out (by omega)
     rw [show ((R.nf+1:Nat):Int)=(R.nf:Int)+1 from rfl] at hrun
     have HM3:=Ac hm3;have HG3:=Ac hg3;clear hm3 hg3
     go_region
     all_goals
      go_wp2_with fail
      go_ret
      obtain ⟨h5,t5⟩:=(HSET.out.1.below (Below.refl _ _).drew).EQ1 HG3.out (R.app n t) (by rw [EA2.out];rfl) (by rw [EA2.out]) (by rw [EA2.out];exact HM3.out) (by rw [EA2.out];exact (HSET.out.1.below (Below.refl _ _).drew).map2)
      exact ⟨rfl,b2,h5,((HT2.out.trans HSET.out.2).trans (Turn.below _ (Below.refl _ _).drew)).trans t5⟩
    ·go_wp2_with fail
     go_ret
     rw [EA.out,if_neg hE0];exact ⟨rfl,b2,HL2.out,HT2.out⟩
  ·have EE:=Ac (show R.app n t=R∧R.UC0 n t=8 from ⟨if_neg (fun h=>hr h.2),by unfold Rw.UC0;rw [if_pos hA,if_neg hr]⟩)
   rw [EE.out.1,EE.out.2];obtain ⟨h1,h2,h3⟩:=hA;unfold Rw.at_ at hr
   have z3:(t.size:Int)=1024:=by omega
   have d1:decide (n<0)=false:=by simp;omega
   have d2:decide ((2147483648:Int)≤n)=false:=by simp;omega
   have d3:decide ((67108864:Int)<64+(R.nf:Int)*1028+1028)=true:=by simp;omega
   clear EE h3 h1 h2 hr
   go_enter Tryz.func98,Tryz.ntmps98
   go_wp2_with fail
   go_ret
   exact Fa.refl HL.out
 ·have EE:=Ac (show R.app n t=R∧R.UC0 n t=1 from ⟨if_neg (fun h=>hA h.1),by unfold Rw.UC0;rw [if_neg hA]⟩)
  rw [EE.out.1,EE.out.2];clear EE;unfold Pq at hA
  by_cases h1:0≤n
  ·have d1:decide (n<0)=false:=by simp;omega
   by_cases h2:n≤2147483647
   ·have d2:decide ((2147483648:Int)≤n)=false:=by simp;omega
    have d3:((t.size:Int) != 1024)=true:=by
     rw [bne_iff_ne];intro e;exact hA ⟨h1,h2,by omega⟩
    clear hA h1 h2
    go_enter Tryz.func98,Tryz.ntmps98
    go_wp2_with fail
    go_ret
    exact Fa.refl HL.out
   ·have d2:decide ((2147483648:Int)≤n)=true:=by simp;omega
    clear hA h1 h2
    go_enter Tryz.func98,Tryz.ntmps98
    go_wp2_with fail
    go_ret
    exact Fa.refl HL.out
  ·have d1:decide (n<0)=true:=by simp;omega
   clear hA h1
   go_enter Tryz.func98,Tryz.ntmps98
   go_wp2_with fail
   go_ret
   exact Fa.refl HL.out
end Go.Proofs.YtjihboddejaelaaGreat
namespace Go.Proofs.YtjihboddejaelaaGreat
open Go.RowKit
def Lg.rw (L:Lg):Rw:=⟨L.D,L.fs.length,L.pages,fun x=>Bc L.fs x,L.kept,L.pages,fun x=>Bc (L.fs.take L.kept) x,L.slot,L.number⟩
theorem EE0 (D:Dk) (f:Nat) (hf:f<2) (k:Nat) (hk:k<2):(D.sync f).seen k=D.seen k:=by
 unfold Dk.sync
 rw [if_pos (by omega)]
 split
 ·exact D.JU0 k
 ·exact D.FT0 f k hf hk
theorem Qm {f a n:Nat}:Lr f a n↔f<2∧a+n≤67108864:=by unfold Lr;omega
theorem Zx (D:Dk) (f a:Nat) (s:ByteArray) (k:Nat):(D.write f a s).seen k=if (f<2∧a+s.size≤67108864)∧¬ D.stops∧f=k then EN0 (D.seen k) a s.data.toList else D.seen k:=by
 unfold Dk.write
 by_cases h:Lr f a s.size
 ·have h2:=Qm.1 h
  rw [if_pos h]
  by_cases hs:D.stops
  ·rw [if_neg (fun h3=>h3.2.1 hs)]
   unfold Dk.change;rw [if_pos hs];exact D.JU0 k
  ·rw [Dk.Vt _ _ hs]
   simp only [Int.toNat_natCast]
   by_cases hk:f=k
   ·have h3:(f<2∧a+s.size≤67108864)∧¬ D.stops∧f=k:=⟨h2,hs,hk⟩
    rw [if_pos hk,if_pos h3];unfold Ch.done;simp
   ·rw [if_neg hk,if_neg (fun h3=>hk h3.2.2)]
 ·rw [if_neg h,if_neg (fun h3=>h (Qm.2 h3.1))]
theorem Lg.ok.AI0 {L:Lg} (h:L.ok) {D':Dk} (hD:D'.ok) (hs:∀ i f,L.fs[i]? = some f→Aw (D'.seen 1) (64+1028*i) 1028=Aw (L.D.seen 1) (64+1028*i) 1028):({ L with D:=D' }:Lg).ok :=
 ⟨hD,h.frames,fun i f hf=>(hs i f hf).trans (h.lies i f hf),h.top,h.kept,h.pages,h.slot,h.number⟩
theorem Lg.ok.same {L:Lg} (h:L.ok) {D':Dk} (hD:D'.ok) (hs:D'.seen 1=L.D.seen 1):({ L with D:=D' }:Lg).ok:=h.AI0 hD fun i f hf=>by rw [hs]
theorem Lg.ok.there {L:Lg} (h:L.ok) {i:Nat} {f:Fr} (hf:L.fs[i]? = some f):64+1028*i+1028≤(L.D.seen 1).length :=
 Gj (h.lies i f hf) (Fr.Gx f (h.frames f (List.mem_of_getElem? hf)).2) (by omega)
theorem Ew (l:List UInt8):(bsOf l).data.toList=l:=Ha l
theorem Om {L:Lg} (h:L.ok) (n:Int) (t:ByteArray):(L.append n t).ok:=by
 unfold Lg.append
 split
 ·rename_i hf
  obtain ⟨⟨h1,h2,h3⟩,h4⟩:=hf
  have hat:64+1028*(L.fs.length+1)≤67108864:=by unfold Lg.at_ at h4;omega
  have hz:(Fr.bytes ⟨n.toNat,t⟩).length=1028:=Fr.Gx _ h3;have hw:=Dk.BE0 h.disk 1 L.at_ (bsOf (Fr.bytes ⟨n.toNat,t⟩));have hs:=Zx L.D 1 L.at_ (bsOf (Fr.bytes ⟨n.toNat,t⟩)) 1
  by_cases hst:L.D.stops
  ·rw [if_neg (fun h5=>h5.2.1 hst)] at hs
   rw [if_pos hst];exact h.same hw hs
  ·rw [if_pos ⟨⟨by omega,by rw [Bv,hz];exact h4⟩,hst,rfl⟩,Ew] at hs
   rw [if_neg hst]
   refine ⟨hw,fun f hf=>?_,fun i f hf=>?_,.inl ?_, ?_,h.pages,h.slot,h.number⟩
   ·rcases List.mem_append.1 hf with hf | hf
    ·exact h.frames f hf
    ·rw [List.mem_singleton.1 hf];exact ⟨by show n.toNat<_;omega,h3⟩
   ·show Aw ((L.D.write 1 L.at_ _).seen 1) _ _=_
    rw [show ((1:Nat):Int)=1 from rfl] at hs
    rw [hs]
    by_cases hi:i<L.fs.length
    ·simp only [] at hf
     rw [List.getElem?_append_left hi] at hf
     rw [Jm (h.there hf) (.inl (by show _≤64+1028*L.fs.length;omega))]
     exact h.lies i f hf
    ·simp only [] at hf
     rw [List.getElem?_append_right (by omega)] at hf
     obtain ⟨hi2,hf2⟩:=List.getElem?_eq_some_iff.1 hf;simp only [List.length_singleton] at hi2
     have hi3:i=L.fs.length:=by omega
     subst hi3;simp at hf2;subst hf2;have:=Qa (L.D.seen 1) L.at_ (Fr.bytes ⟨n.toNat,t⟩);rw [hz] at this;exact this
   ·show 64+1028*(L.fs++[_]).length≤_
    rw [List.length_append,List.length_singleton];exact hat
   ·show L.kept≤(L.fs++[_]).length
    have:=h.kept;rw [List.length_append];omega
 ·exact h
theorem SL0 (L:Lg) (f p:Nat) (hsl:L.slot<2) (b n:Nat) (hb:64≤b) (hl:b+n≤(L.D.seen 1).length):Aw ((L.Bi f p).seen 1) b n=Aw (L.D.seen 1) b n:=by
 have hs:=Zx L.D 1 (16+24*(1-L.slot)) (bsOf (slotL (L.number % 3+1) f p)) 1;unfold Lg.Bi
 rw [show ((1:Nat):Int)=1 from rfl] at hs
 rw [hs]
 split
 ·exact Jm hl (.inr (by rw [Ew,Ed];omega))
 ·rfl
theorem PK0 {L:Lg} (h:L.ok) (f p:Nat):(L.Bi f p).ok:=Dk.BE0 h.disk _ _ _
theorem Lg.ok.tell {L:Lg} (h:L.ok) {f p:Nat} (hf:f≤L.fs.length) (hp:p<4294967296):(L.tell f p).ok:=by
 unfold Lg.tell
 have ht:∀ i g,L.fs[i]? = some g→Aw ((L.Bi f p).seen 1) (64+1028*i) 1028=Aw (L.D.seen 1) (64+1028*i) 1028:=fun i g hg=>SL0 L f p h.slot _ _ (by omega) (h.there hg)
 have hsy:((L.Bi f p).sync 1).seen 1=(L.Bi f p).seen 1:=EE0 _ 1 (by omega) 1 (by omega)
 have hok:=Dk.Vx (PK0 h f p) 1
 split
 ·exact h.AI0 (PK0 h f p) ht
 ·split
  ·exact h.AI0 hok fun i g hg=>by rw [hsy];exact ht i g hg
  ·exact ⟨hok,h.frames,fun i g hg=>by show Aw (((L.Bi f p).sync 1).seen 1) _ _=_;rw [hsy,ht i g hg];exact h.lies i g hg,h.top,hf,hp,by show 1-L.slot<2;omega,by show L.number % 3+1<4;omega⟩
theorem Lg.ok.SH0 {L:Lg} (h:L.ok) (k:Nat) (hk:k<2):({ L with D:=L.D.sync k }:Lg).ok:=h.same (Dk.Vx h.disk k) (EE0 L.D k hk 1 (by omega))
theorem YK0 {L:Lg} (h:L.ok) (n:Int) (t:ByteArray) (p:Int):(L.Eu n t p).ok:=by
 unfold Lg.Eu
 split
 ·rename_i hp
  split
  ·split
   ·exact (Om h n t).SH0 1 (by omega)
   ·exact Lg.ok.tell ((Om h n t).SH0 1 (by omega)) (Nat.le_refl _) (by omega)
  ·exact Om h n t
 ·exact h
theorem CU1 {L:Lg} (h:L.ok):L.back.ok:=by
 unfold Lg.back
 refine ⟨h.disk,fun f hf=>h.frames f (List.mem_of_mem_take hf),fun i f hf=>h.lies i f ?_, ?_, ?_,h.pages,h.slot,h.number⟩
 ·simp only [List.getElem?_take] at hf
  split at hf
  ·exact hf
  ·cases hf
 ·rcases h.top with h1 | h1
  ·refine .inl ?_
   show 64+1028*(L.fs.take L.kept).length≤_
   rw [List.length_take];omega
  ·refine .inr ?_
   show L.fs.take L.kept=[]
   rw [h1,List.take_nil]
 ·show L.kept≤(L.fs.take L.kept).length
  have:=h.kept;rw [List.length_take];omega
open Go.BigFrame Go.Maps
def JB0 (u:World) (b:List (Option Nat)) (gd g m1 m2:Nat) (R':Rw) (v:Value) (e:Ending) (w':World):Prop :=
 e = .returned v∧∃ b' m1' m2',LR w' b' gd g m1' m2' R'∧Turn (b++lb g m1 m2) (b'++lb g m1' m2') u w'
theorem Fa.maps {u:World} {b:List (Option Nat)} {gd g m1 m2:Nat} {R':Rw} {E:Int} {e:Ending} {w':World} (h:Fa u b gd g m1 m2 R' E e w'):JB0 u b gd g m1 m2 R' (.int .i64 E) e w':=by
 obtain ⟨he,b',h1,h2⟩:=h;exact ⟨he,b',m1,m2,h1,h2⟩
theorem Turn.trans' {w0 w w':World} {c d d' s s':List (Option Nat)} (h:Turn c d w0 w) (k:Turn s s' w w') (hs:∀ k,some k∈s→some k∈d) (hd:∀ k,some k∈d'→some k∈d∨w0.heap.size≤k):Turn c d' w0 w' :=
 ⟨k.os.trans h.os,k.tape.trans h.tape,k.output.trans h.output,Nat.le_trans h.size k.size,fun i hi hn=>(k.block i (Nat.lt_of_lt_of_le hi h.size) (fun h2=>by
   rcases h.new i (hs i h2) with h3 | h3
   ·exact hn h3
   ·omega)).trans (h.block i hi hn),fun i hi=>(hd i hi).elim (h.new i) .inr⟩
section
variable {w0 w w':World} {b c:List (Option Nat)} {gd g m1 m2 m n:Nat} {R:Rw} {f:Int→Nat}
end
theorem LR.now {w:World} {b:List (Option Nat)} {gd g m1 m2:Nat} {R:Rw} (h:LR w b gd g m1 m2 R):w.cell? ⟨g,1,none⟩=some (.int .i64 R.nf)∧w.cell? ⟨g,2,none⟩=some (.int .i64 R.np)∧w.cell? ⟨g,3,none⟩=some (.map (some m1)):=⟨h.has.cell 1,h.has.cell 2,h.has.cell 3⟩
theorem LR.old {w:World} {b:List (Option Nat)} {gd g m1 m2:Nat} {R:Rw} (h:LR w b gd g m1 m2 R):w.cell? ⟨g,4,none⟩=some (.int .i64 R.kf)∧w.cell? ⟨g,5,none⟩=some (.int .i64 R.kp)∧w.cell? ⟨g,6,none⟩=some (.map (some m2)):=⟨h.has.cell 4,h.has.cell 5,h.has.cell 6⟩
theorem CS0 (b:List (Option Nat)) (gd g m1 m2:Nat) (R:Rw) (w:World) (h:LR w b gd g m1 m2 R):Calls Tryz.prog 39 #[.pointer (some ⟨g,0,none⟩)] w fun e w'=>e = .returned (.int .i64 R.kp)∧w=w':=by
 have x5:w.cell? ⟨g,5,none⟩=some (.int .i64 R.kp):=h.has.cell 5
 go_enter Tryz.func39,Tryz.ntmps39
 go_wp2_with fail
 go_ret
 exact ⟨rfl,rfl⟩
end Go.Proofs.YtjihboddejaelaaGreat
