/-
  A law's arguments opened: what is common to all laws of a seat.
-/
import Derived.Test.YtjihboddejaelaaGreatTs1
import Derived.Test.YtjihboddejaelaaGreatTs9
import Derived.ProofKit
import Derived.OpenShut
import Derived.ShutString
import Derived.ChangeOld
import Derived.SizedLaws
import Derived.Deep.Slices
import Derived.Lib.SmallJoins
import Derived.Test.YtjihboddejaelaaGreatTs7
import Derived.Test.YtjihboddejaelaaGreatTs20
import Derived.Test.YtjihboddejaelaaGreatTs19
import Derived.Deep.CutBlock
set_option linter.unusedVariables false
set_option linter.unusedSimpArgs false
set_option maxRecDepth 100000
set_option maxHeartbeats 100000000
namespace Go.Proofs.YtjihboddejaelaaGreat
open Go.ChangeShapes Go.WideShapes Go.ChangeAt Go.RowKit
theorem GJ1:ownKnob Tryz.prog.godebug=none:=by kernel_rfl
theorem AF1:laidOutB Tryz.prog=true:=by kernel_rfl
theorem UQ0 : Tryz.prog.cellsOf 3 = 1:=by kernel_rfl
theorem LP0 : Tryz.prog.cellsOf 9 = 1:=by kernel_rfl
theorem XG0 {W:World} {a:Addr} {u:Value} (c0:W.cell? (a.add 0)=some u):a.spot=none∧a.block<W.heap.size:=by
 have hs:a.spot=none:=by
  unfold World.cell? at c0
  cases hsp:a.spot with
  | none=>rfl
  | some q =>
    exfalso
    have:(a.add 0).spot=some q:=by simp [Addr.add,hsp]
    rw [this] at c0
    split at c0 <;> simp at c0
 refine ⟨hs, ?_⟩
 obtain ⟨b,off,spot⟩:=a;simp only at hs;subst hs;unfold World.cell? at c0
 rcases Nat.lt_or_ge b W.heap.size with h1 | h1
 ·exact h1
 ·rw [show ((⟨b,off,none⟩:Addr).add 0).block=b from rfl,Array.getElem?_eq_none h1] at c0
  cases c0
section
variable {H:Type} {enc:TypeId×Value→H} {W:World}
end
theorem Ti {H:Type} {P:Program} {e:TypeId} {d:DataW H}:∀ {l:List (DataW H)},d∈l→∀ n∈d.weights P e,n∈DataW.weightsAll P e l
 | x :: l,hd,n,hn=>by
   simp only [DataW.weightsAll,List.mem_append]
   rcases List.mem_cons.1 hd with rfl | h
   ·exact Or.inl hn
   ·exact Or.inr (Ti h n hn)
theorem LG0 : Tryz.prog.cellsOf 36 = 6:=by kernel_rfl
structure IG0 where
 kind:Int
 f:Int
 at_:Int
 n:Int
 s:ByteArray
 t:ByteArray
def IG0.arr (a:IG0):Array Value:=#[.int .i64 a.kind,.int .i64 a.f,.int .i64 a.at_,.int .i64 a.n,.string a.s,.string a.t]
def CA1 (x:Int):Prop:=-9223372036854775808≤x∧x≤9223372036854775807
structure IG0.Ok (a:IG0):Prop where
 kind:CA1 a.kind
 f:CA1 a.f
 at_:CA1 a.at_
 n:CA1 a.n
 s:a.s.size≤maxLen
 t:a.t.size≤maxLen
structure KS (w:World) (A:Option Addr) (n:Nat) (acts:List IG0):Prop where
 len:acts.length=n
 cells:0<n→∃ b off,A=some ⟨b,off,none⟩∧b<w.heap.size∧∀ i a,acts[i]? = some a→∀ j u,a.arr[j]? = some u→w.cell? ⟨b,off+i*6+j,none⟩=some u
 ok:∀ a∈acts,a.Ok
theorem KS.take {w:World} {A:Option Addr} {n:Nat} {acts:List IG0} (h:KS w A n acts) {k:Nat} (hk:k≤n):KS w A k (acts.take k) :=
 ⟨by rw [List.length_take,h.len];omega,fun hn=>by
   obtain ⟨b,off,hA,hl,hc⟩:=h.cells (by omega)
   exact ⟨b,off,hA,hl,fun i v hv=>hc i v (by
    rw [List.getElem?_take] at hv
    split at hv
    ·exact hv
    ·cases hv)⟩,fun a ha=>h.ok a (List.mem_of_mem_take ha)⟩
theorem BR1 {n:Int} (h:(Lit.int .i64 n).wf=true):CA1 n:=by
 have : -9223372036854775808≤n∧n≤9223372036854775807:=by
  simpa [Lit.wf,IntKind.min,IntKind.max,IntKind.bits,IntKind.signed] using h
 exact this
section
variable {H:Type} {enc:TypeId×Value→H} {W:World}
end
end Go.Proofs.YtjihboddejaelaaGreat
namespace Go.Proofs.YtjihboddejaelaaGreat
open Go.RowKit Go.BigFrame Go.Maps
def AV0 (c:Int) (n:Nat):Nat:=(if c<0 then (-(c+1)).toNat else c.toNat) % n
theorem ZN0 (c:Int) {n:Nat} (h:0<n):AV0 c n<n:=Nat.mod_lt _ h
theorem JL0 (c:Int) (n:Nat) (hc:CA1 c) (h0:0<n) (hn:n≤1000000) (w:World):Calls Tryz.prog 11 #[.int .i64 c,.int .i64 n] w fun e w'=>e = .returned (.int .i64 (AV0 c n:Nat))∧w=w':=by
 obtain ⟨x,hx⟩:∃ x,AV0 c n=x:=⟨_,rfl⟩;rw [hx]
 by_cases hneg:c<0
 ·have w1:wrap64 (c+1)=c+1:=IntWalk.wrap64_in _ (by unfold CA1 at hc;omega)
  have w2:wrap64 (-(c+1)) = -(c+1):=IntWalk.wrap64_in _ (by unfold CA1 at hc;omega)
  have e:(-(c+1)).tmod (n:Int)=(x:Int):=by
   rw [← hx,AV0,if_pos hneg]
   rw [Int.tmod_eq_emod_of_nonneg (by omega),Int.natCast_emod,Int.toNat_of_nonneg (by omega)]
  have X:=Ac hx;clear hx hc
  go_enter Tryz.func11,Tryz.ntmps11
  go_wp2_with fail
  go_ret
  exact ⟨by first | rfl | simp_all,rfl⟩
 ·have e:c.tmod (n:Int)=(x:Int):=by
   rw [← hx,AV0,if_neg hneg]
   rw [Int.tmod_eq_emod_of_nonneg (by omega),Int.natCast_emod,Int.toNat_of_nonneg (by omega)]
  have X:=Ac hx;clear hx hc
  go_enter Tryz.func11,Tryz.ntmps11
  go_wp2_with fail
  go_ret
  exact ⟨by first | rfl | simp_all,rfl⟩
theorem AD0 (A:Option Addr) (m c a:Nat) (h:a≤c) (w:World):(Instr.sliceAt 22 (.slice A m c) none (some (.int .i64 a)) none).run Tryz.prog w = .ok (.slice A a c) w:=by
 have h1:(0:Int)≤(a:Int):=by omega
 have h2:(a:Int)≤(c:Int):=by omega
 go_simp
theorem SQ0 (A:Option Addr) (n c:Nat) (hc:n≤c) (w:World):Calls Tryz.prog 10 #[.slice A n c] w fun e w'=>e = .returned (.slice A (min n 250) c)∧w=w':=by
 by_cases h:n≤250
 ·have E:=Ac (show min n 250=n by omega)
  rw [E.out]
  have hm:min (n:Int) 250=(n:Int):=by omega
  have hs:=fun w=>AD0 A n c n hc w
  go_enter Tryz.func10,Tryz.ntmps10
  go_wp2_with fail
  go_ret
  exact ⟨rfl,rfl⟩
 ·have E:=Ac (show min n 250=250 by omega)
  rw [E.out]
  have hm:min (n:Int) 250=250:=by omega
  have hs:=fun w=>AD0 A n c 250 (by omega) w
  go_enter Tryz.func10,Tryz.ntmps10
  go_wp2_with fail
  go_ret
  exact ⟨rfl,rfl⟩
end Go.Proofs.YtjihboddejaelaaGreat
namespace Go.Proofs.YtjihboddejaelaaGreat
open Go.RowKit Go.BigFrame
structure LX (w wr:World) (X:List (Option Nat)) (p tb root mb c k:Nat) (S S0:St) (g:Ky→Bool) (n:Nat):Prop where
 pt:PT wr X p S S0 c k
 tm:TM wr X tb p root
 sm:SM wr mb g n
 mx:some mb∉X
 be:Below w.heap.size w wr
 lo:∀ i,some i∈X→w.heap.size≤i
 mt:w.heap.size≤mb
section
variable {w wr w2:World} {X X':List (Option Nat)} {p tb root mb c k c' k' n n':Nat} {S S' S0:St} {g g':Ky→Bool}
theorem LX.below (h:LX w wr X p tb root mb c k S S0 g n) (hb:Below wr.heap.size wr w2):LX w w2 X p tb root mb c k S S0 g n :=
 ⟨h.pt.below hb,h.tm.below hb,h.sm.below hb,h.mx,h.be.trans (hb.mono h.be.size),h.lo,h.mt⟩
theorem LX.turn (h:LX w wr X p tb root mb c k S S0 g n) (hp:PT w2 X' p S' S0 c' k') (ht:Turn X X' wr w2):LX w w2 X' p tb root mb c' k' S' S0 g n :=
 ⟨hp,h.tm.turn ht,h.sm.turn ht h.mx,ht.out h.mx h.sm.lt,ht.bel h.be h.lo h.be.size,ht.low h.lo h.be.size,h.mt⟩
theorem LX.GE1 (h:LX w wr X p tb root mb c k S S0 g n):some tb≠some mb:=fun e=>by
 obtain ⟨D,⟨es,cl,h1,_⟩,_⟩:=h.sm;have h2:=h.tm.has;rw [Option.some.inj e] at h2;unfold Has at h2;rw [h2] at h1;cases h1
theorem LX.map (h:LX w wr X p tb root mb c k S S0 g n) (hm:SM w2 mb g' n') (hg:wr.grownBy w2 (some mb)):LX w w2 X p tb root mb c k S S0 g' n' :=
 ⟨h.pt.grown hg fun i e=>by rw [← Option.some.inj e];exact h.mx,h.tm.grown hg h.GE1,hm,h.mx,⟨hg.os.trans h.be.os,hg.tape.trans h.be.tape,hg.output.trans h.be.output,Nat.le_trans h.be.size hg.size,fun i hi=>(hg.block i (Nat.lt_of_lt_of_le hi h.be.size) (fun e=>by have:=h.mt;have:=Option.some.inj e;omega)).trans (h.be.block i hi)⟩,h.lo,h.mt⟩
end
def MT0 (a:IG0):Ky:=(a.s.data.toList++[107]).take 200
theorem Ya (a:IG0):1≤(MT0 a).length∧(MT0 a).length≤200:=by
 unfold MT0;rw [List.length_take,List.length_append,List.length_singleton];omega
def AJ1 (a:IG0):Ky:=a.t.data.toList++List.replicate (AV0 a.n 2900) 0
theorem BT1 (a:IG0):(AJ1 a).length=a.t.size+AV0 a.n 2900:=by
 unfold AJ1;rw [List.length_append,List.length_replicate];rfl
def FW1 (w:World) (p tb root mb N:Nat) (gg:Nat) (v48:Value) (wr:World):Prop :=
 ∃ (i:Nat) (S:St) (X:List (Option Nat)) (E:List En) (g:Ky→Bool) (n:Nat),i+gg=N∧v48 = .int .i64 i∧LX w wr X p tb root mb (4+120*i) (105+220*i) S St.first g n∧TI S root E g n∧S.q≤2+21*i∧n≤i
theorem QE0 (s:ByteArray):(s++⟨#[107]⟩:ByteArray).data.toList=s.data.toList++[107]:=by simp
theorem XJ0 {s:ByteArray} (h:s.size+1≤200):s++⟨#[107]⟩=bsK ((s.data.toList++[107]).take 200):=by
 rw [List.take_of_length_le (by rw [List.length_append,List.length_singleton];show s.size+1≤200;exact h),← QE0,Yk]
theorem ZH0 (s:ByteArray):(s++⟨#[107]⟩:ByteArray).extract 0 200=bsK ((s.data.toList++[107]).take 200):=by
 rw [← Yk ((s++⟨#[107]⟩:ByteArray).extract 0 200),Lib.extract_data,QE0];rfl
theorem ZP0 (a:IG0):a.t++bsOf (List.replicate (AV0 a.n 2900) 0)=bsK (AJ1 a):=by
 rw [← Yk (a.t++bsOf (List.replicate (AV0 a.n 2900) 0))]
 congr 1
structure LY (w wr:World) (Y X:List (Option Nat)) (p tb root mb sb c k:Nat) (S S0:St) (g:Ky→Bool) (n:Nat) (G:Gat) (v1 v2 v3:Value):Prop where
 lx:LX w wr X p tb root mb c k S S0 g n
 sh:ShO wr Y X sb G v1 v2 v3
 yo:∀ i,some i∈Y→w.heap.size≤i∧i≠tb∧i≠mb
section
variable {w wr w2:World} {Y Y' X X':List (Option Nat)} {p tb root mb sb c k c' k' n:Nat} {S S' S0:St} {g:Ky→Bool} {G G':Gat} {v1 v2 v3:Value}
theorem LY.below (h:LY w wr Y X p tb root mb sb c k S S0 g n G v1 v2 v3) (hb:Below wr.heap.size wr w2):LY w w2 Y X p tb root mb sb c k S S0 g n G v1 v2 v3:=⟨h.lx.below hb,h.sh.below hb,h.yo⟩
theorem LY.of (h:LX w wr X p tb root mb c k S S0 g n) (hY:∀ i,some i∈Y→w.heap.size≤i∧i≠tb∧i≠mb) (hp:PT w2 X' p S' S0 c' k') (hs:ShO w2 Y' X' sb G v1 v2 v3) (ht:Turn (Y++X) (Y'++X') wr w2):LY w w2 Y' X' p tb root mb sb c' k' S' S0 g n G v1 v2 v3:=by
 have htb:some tb∉Y++X:=fun hm=>(List.mem_append.1 hm).elim (fun hm=>(hY tb hm).2.1 rfl) h.tm.out
 have hmb:some mb∉Y++X:=fun hm=>(List.mem_append.1 hm).elim (fun hm=>(hY mb hm).2.2 rfl) h.mx
 have hlo:∀ i,some i∈Y++X→w.heap.size≤i:=fun i hm=>(List.mem_append.1 hm).elim (fun hm=>(hY i hm).1) (h.lo i)
 have ht1:=ht.out htb h.tm.has.lt;have ht2:=ht.out hmb h.sm.lt
 exact ⟨⟨hp,⟨ht.has h.tm.has htb,fun hm=>ht1 (List.mem_append_right _ hm)⟩,h.sm.turn ht hmb,fun hm=>ht2 (List.mem_append_right _ hm),ht.bel h.be hlo h.be.size,fun i hm=>ht.low hlo h.be.size i (List.mem_append_right _ hm),h.mt⟩,hs,fun i hm=>⟨ht.low hlo h.be.size i (List.mem_append_left _ hm),fun e=>ht1 (List.mem_append_left _ (e ▸ hm)),fun e=>ht2 (List.mem_append_left _ (e ▸ hm))⟩⟩
theorem LY.pool (h:LY w wr Y X p tb root mb sb c k S S0 g n G v1 v2 v3) (hp:PT w2 X' p S' S0 c' k') (ht:Turn X X' wr w2):LY w w2 Y X' p tb root mb sb c' k' S' S0 g n G v1 v2 v3 :=
 ⟨h.lx.turn hp ht,⟨h.sh.eq,h.sh.ob.far ht (by have:=h.sh.dj.symm;rw [h.sh.eq] at this;exact this),fun i hi hm=>by
   rcases ht.new i hm with h1 | h1
   ·exact h.sh.dj i hi h1
   ·have:=h.sh.lt hi;omega⟩,h.yo⟩
theorem LI0 {v:Value} {l:List Nat} {m:Nat} (h:wr.ownsRow 0 3 1 v l.length (Xo l)) (hm:l.length=m):∃ A c,v = .slice A m c∧(0<m→∃ b,A=some ⟨b,0,none⟩∧b<wr.heap.size∧∀ (i x:Nat),l[i]? = some x→wr.cell? ⟨b,i,none⟩=some (.int .i64 (x:Nat))):=by
 subst hm
 rcases h.2 with ⟨h0,h1⟩ | ⟨b,cap,cur,hv,hb,hg,r⟩
 ·exact ⟨none,0,by rw [h0,h1],fun h9=>by omega⟩
 ·subst hv
  refine ⟨_,_,rfl,fun _=>⟨b,rfl,(Array.getElem?_eq_some_iff.1 hg).1,fun i x hi=>?_⟩⟩
  have:=h.cells (g:=b) rfl i (.int .i64 (x:Nat)) (by simp [Xo,hi])
  rw [addr_add,Nat.zero_add] at this;exact this
theorem KC0 {v:Value} {l:List Ky} {m:Nat} (h:wr.ownsRow 0 9 1 v l.length (EQ0 l)) (hm:l.length=m):∃ A c,v = .slice A m c∧(0<m→∃ b,A=some ⟨b,0,none⟩∧b<wr.heap.size∧∀ (i:Nat) (x:Ky),l[i]? = some x→wr.cell? ⟨b,i,none⟩=some (.string (bsK x))):=by
 subst hm
 rcases h.2 with ⟨h0,h1⟩ | ⟨b,cap,cur,hv,hb,hg,r⟩
 ·exact ⟨none,0,by rw [h0,h1],fun h9=>by omega⟩
 ·subst hv
  refine ⟨_,_,rfl,fun _=>⟨b,rfl,(Array.getElem?_eq_some_iff.1 hg).1,fun i x hi=>?_⟩⟩
  have:=h.cells (g:=b) rfl i (.string (bsK x)) (by simp [EQ0,hi])
  rw [addr_add,Nat.zero_add] at this;exact this
end
open Go.Maps
def behind:Nat→Code→Code
 | 0,c=>c
 | n+1,.seq _ b=>behind n b
 | _+1,c=>c
theorem LK0 {G:Nat→Pg} {root:Nat}:∀ {Ds:List (List Nd)} {L:List Nd},Dwn G 0 root L Ds→∀ i∈Ig L Ds,MD0 i
 | [],L,h,i,hi=>by
   obtain ⟨x,hx,hxi⟩:=List.mem_flatMap.1 (show i∈L.flatMap (·.its) from hi)
   exact Hy.keys h x hx i hxi
 | D :: r,_,h,i,hi=>LK0 (Ds:=r) (L:=D) h.2 i hi
theorem Qb.FH1 {S:St} {root:Nat} {x:Nd} {Ds:List (List Nd)} {E:List En} {P:List (List Nat)} (h:Qb S root x Ds E P):∀ k∈E.map (·.1),k.length≤200:=by
 rw [h.ent.keys];intro k hk;obtain ⟨i,hi,rfl⟩:=List.mem_map.1 hk;exact (LK0 h.tre.1 i hi).le
theorem SM.len {w:World} {b c:Nat} {g:Ky→Bool} (h:SM w b g c) (ty:TypeId):(Builtin.len_ #[33] ty #[.map (some b)]).run Tryz.prog w = .ok (.int .i64 (c:Int)) w:=by
 obtain ⟨D,h1,h2,h3⟩:=h;have:=h1.len Tryz.underlying33 ty;rw [h3] at this;exact this
theorem YT0 {w:World} {X:List (Option Nat)} {p c k:Nat} {S S0:St} (h:PT w X p S S0 c k):ShO (w.alloc (.cells #[.int .i64 0,.slice none 0 0,.slice none 0 0,.slice none 0 0,.bool true] 46)) [some w.heap.size,none,none,none] X w.heap.size Gat.nil (.slice none 0 0) (.slice none 0 0) (.slice none 0 0):=by
 refine ⟨rfl,⟨Has.new _ _ _,fun r hr=>?_, ?_⟩,fun k hk hm=>?_⟩
 ·simp only [shR,List.mem_cons,List.not_mem_nil,or_false] at hr
  rcases hr with rfl | rfl | rfl <;> exact World.ownsRow_nil _ _ _ _
 ·show List.Pairwise _ [some w.heap.size,none,none,none]
  simp
 ·have:k=w.heap.size:=by simpa using hk
  have:=h.lt _ hm;omega
theorem WY0 (w wr:World) (Y X:List (Option Nat)) (p tb root mb sb c k cnt M m:Nat) (S:St) (g:Ky→Bool) (G:Gat) (v1 v2:Value) (A3:Option Addr) (c3:Nat) (x0:Nd) (Ds0:List (List Nd)) (E:List En) (P0:List (List Nat)) (u0 u1 u2 u3 u5 u9 u10 u11 u13 u14 u15 u16 u17 u18 u19 u20 u21 u22 u23 u24 u25 u26 u27 u28 u29 u30 u31 u32 u33 u34 u35 u36 u37 u38 u39 u40 u41 u42 u43 u44 u45 u46 u47 u48 u49 u50 u51 u52 u53 u54 u55 u56 u57 u58 u59 u60 u61 u62 u63 u64 u65 u66 u67 u68 u69 u70 u71 u72 u73 u74 u75 u76 u77 u78 u79 u80 u81 u82 u83 u84 u85 u86 u87 u88 u89 u90 u91 u92 u93 u94 u95 u96 u97 u98 u99 u100 u101 u102 u103 u104 u105 u106 u107 u108 u109 u110 u111 u112 u113 u114 u115 u116 u117 u118 u119 u120 u121 u122 u123 u124 u125 u126 u127 u128 u129 u130 u131 u132 u133 u134 u135 u136 u137 u138 u139 u140 u141 u142 u143 u144 u145 u146 u147 u148 u149 u150 u151 u152 u153 u154 u155 u156 u157 u158 u159 u160 u161 u162 u163 u164 u165 u166 u167 u168 u169 u170 u171 u172 u173 u174 u175 u176 u177 u178 u179 u180 u181 u182 u183 u184 u185 u186 u187 u188 u189 u190 u191 u192 u193 u194 u195 u196 u197 u198 u199 u200 u201 u202 u203 u204 u205 u206 u207 u208 u209 u210 u211 u212 u213 u214 u215 u216 u217 u218 u219 u220 u221 u222 u223 u224 u225 u226:Value) (hy:LY w wr Y X p tb root mb sb c k S St.first g cnt G v1 v2 (.slice A3 cnt c3)) (hGm:G.m=M) (hM:M+S.fr.length+1=S.q) (hMM:(Ei [x0] Ds0++P0.flatten).length=M) (ht0:Qb S root x0 Ds0 E P0) (h30:∀ ps∈P0,ps.length≤3) (hq:S.q≤10000) (hc:c≤35000) (hk:k≤1000000) (hcnt:cnt≤250) :
 Code.wp Tryz.prog (behind 14 (Tryz.f3.body.getD .skip)) (bodyPost Tryz.prog Tryz.f3 fun e w'=>e = .returned (.bool true)∧Below w.heap.size w w') { tmps:=#[u0,u1,u2,u3,.pointer (some ⟨p,0,none⟩),u5,.int .i64 root,.pointer (some ⟨tb,0,none⟩),.map (some mb),u9,u10,u11,.pointer (some ⟨sb,0,none⟩),u13,u14,u15,u16,u17,u18,u19,u20,u21,u22,u23,u24,u25,u26,u27,u28,u29,u30,u31,u32,u33,u34,u35,u36,u37,u38,u39,u40,u41,u42,u43,u44,u45,u46,u47,u48,u49,u50,u51,u52,u53,u54,u55,u56,u57,u58,u59,u60,u61,u62,u63,u64,u65,u66,u67,u68,u69,u70,u71,u72,u73,u74,u75,u76,u77,u78,u79,u80,u81,u82,u83,u84,u85,u86,u87,u88,u89,u90,u91,u92,u93,u94,u95,u96,u97,u98,u99,u100,u101,u102,u103,u104,u105,u106,u107,u108,u109,u110,u111,u112,u113,u114,u115,u116,u117,u118,u119,u120,u121,u122,u123,u124,u125,u126,u127,u128,u129,u130,u131,u132,u133,u134,u135,u136,u137,u138,u139,u140,u141,u142,u143,u144,u145,u146,u147,u148,u149,u150,u151,u152,u153,u154,u155,u156,u157,u158,u159,u160,u161,u162,u163,u164,u165,u166,u167,u168,u169,u170,u171,u172,u173,u174,u175,u176,u177,u178,u179,u180,u181,u182,u183,u184,u185,u186,u187,u188,u189,u190,u191,u192,u193,u194,u195,u196,u197,u198,u199,u200,u201,u202,u203,u204,u205,u206,u207,u208,u209,u210,u211,u212,u213,u214,u215,u216,u217,u218,u219,u220,u221,u222,u223,u224,u225,u226],defers:=[] } wr:=by
 conv =>
  arg 2
  simp only [Tryz.f3,Option.getD,behind]
 conv =>
  arg 4
  dsimp only
 have LY0:=Ac hy
 have s0:wr.cell? ⟨sb,0,none⟩=some (.int .i64 (M:Nat)):=by have:=hy.sh.has.cell 0;rw [hGm] at this;exact this
 have s3:wr.cell? ⟨sb,3,none⟩=some (.slice A3 cnt c3):=hy.sh.has.cell 3;have s4:wr.cell? ⟨sb,4,none⟩=some (.bool true):=hy.sh.has.cell 4;have sz:=hy.sh.has.lt;have sf:=hy.sh.has.frozen
 have FR:=Ac (fun W (h:LY w W Y X p tb root mb sb c k S St.first g cnt G v1 v2 (.slice A3 cnt c3))=>MJ0 h.lx.pt (by omega) (by omega))
 have LEN0:∀ ty,(Builtin.len_ #[33] ty #[.map (some mb)]).run Tryz.prog wr = .ok (.int .i64 (cnt:Int)) wr:=fun ty=>hy.lx.sm.len ty
 have LEN1:∀ ty,(Builtin.len_ #[33] ty #[.map (some mb)]).run Tryz.prog wr.drew = .ok (.int .i64 (cnt:Int)) wr.drew:=fun ty=>(hy.below (Below.refl wr.heap.size wr).drew).lx.sm.len ty
 have j1:(M:Int)+(S.fr.length:Int)+1=(S.q:Int):=by omega
 have LY1:=Ac (hy.below (Below.refl wr.heap.size wr).drew);have HH:=Ac (And.intro hGm (And.intro hM (And.intro hMM (And.intro ht0 (And.intro h30 (And.intro hq (And.intro hc (And.intro hk hcnt))))))))
 have CEL:=Ac (fun W X2 S2 k2 (h:LY w W Y X2 p tb root mb sb c k2 S2 St.first g cnt G v1 v2 (.slice A3 cnt c3))=>show W.cell? ⟨sb,0,none⟩=some (.int .i64 (M:Nat))∧W.cell? ⟨sb,3,none⟩=some (.slice A3 cnt c3)∧W.cell? ⟨sb,4,none⟩=some (.bool true)∧∀ ty,(Builtin.len_ #[33] ty #[.map (some mb)]).run Tryz.prog W = .ok (.int .i64 (cnt:Int)) W from ⟨by have:=h.sh.has.cell 0;rw [hGm] at this;exact this,h.sh.has.cell 3,h.sh.has.cell 4,fun ty=>h.lx.sm.len ty⟩)
 clear hy hGm hM hMM ht0 h30
 go_upto_region 42 with fail
 have TC:=LY1
 go_region_held3 (fun w'=>w'.cell? ⟨sb,0,none⟩=some (.int .i64 (M:Nat))∧w'.cell? ⟨sb,3,none⟩=some (.slice A3 cnt c3)∧w'.cell? ⟨sb,4,none⟩=some (.bool true)∧∀ ty,(Builtin.len_ #[33] ty #[.map (some mb)]).run Tryz.prog w' = .ok (.int .i64 (cnt:Int)) w') (first | exact (CEL.out _ _ _ _ TC.out) | go_keep)
  (first
    | (go_at_call 15;(refine (FR.out _ TC.out).mono ?_);rintro e w5 ⟨rfl,X5,hp5,ht5⟩;have TC:=Ac (TC.out.pool hp5 ht5);clear hp5 ht5)
    | (go_at_call 16;(refine (JH0 TC.out.lx.pt).mono ?_);rintro e w6 ⟨rfl,rfl⟩))
 have DR:=Ac (VA0 TC.out.lx.pt TC.out.lx.tm (by have:=HH.out;omega) (by have:=HH.out;omega) HH.out.2.2.2.1 HH.out.2.2.2.2.1)
 have CN:=Ac (fun S' (m:Mv S S' (Ei [x0] Ds0++P0.flatten) [])=>m.count (by have:=HH.out;omega))
 have j9:(IntKind.i64.wrap (IntKind.i64.wrap ((M:Int)+(S.fr.length:Int))+1) != (S.q:Int))=false:=by
  have w1:IntKind.i64.wrap ((M:Int)+(S.fr.length:Int))=(M:Int)+(S.fr.length:Int):=IntWalk.i64_in _ ⟨by omega,by have:=HH.out;omega⟩
  have w2:IntKind.i64.wrap ((M:Int)+(S.fr.length:Int)+1)=(M:Int)+(S.fr.length:Int)+1:=IntWalk.i64_in _ ⟨by omega,by have:=HH.out;omega⟩
  rw [w1,w2,j1,bne_self_eq_false]
 clear FR CEL LEN0 LEN1 s0 s3 s4 sz sf LY0 LY1 j1
 go_wp2_with (first
  | (go_at_call 17;(with_reducible refine DR.out.mono ?_);rintro e w7 ⟨rfl,S7,X7,hp7,ht7,hm7,hq7⟩;have TC7:=Ac (TC.out.pool hp7 ht7);have J7:=Ac (show ((S7.fr.length:Int)+1 == (S7.q:Int))=true from (by have:=CN.out S7 hm7;simp at this;rw [beq_iff_eq];omega));have j8:S7.fr.length≤10000:=(by have:=CN.out S7 hm7;have:=HH.out;simp at this;omega);have FR:=Ac (MJ0 TC7.out.lx.pt (by have:=HH.out;omega) (by have:=HH.out;omega));clear hp7 ht7 hm7 hq7)
  | (go_at_call 15;(with_reducible refine FR.out.mono ?_);rintro e w8 ⟨rfl,X8,hp8,ht8⟩;have TC8:=Ac (TC7.out.pool hp8 ht8);clear hp8 ht8)
  | (go_at_call 16;(with_reducible refine (JH0 TC8.out.lx.pt).mono ?_);rintro e w9 ⟨rfl,rfl⟩))
 go_ret
 exact ⟨congrArg (fun b:Bool=>Ending.returned (Value.bool b)) J7.out,TC8.out.lx.be⟩
theorem XU0 (w wr:World) (Y X:List (Option Nat)) (p tb root mb sb c k cnt M m:Nat) (S:St) (g:Ky→Bool) (L:List Nd) (A1 A2 A3:Option Addr) (c1 c2 c3:Nat) (x0:Nd) (Ds0:List (List Nd)) (E:List En) (P0:List (List Nat)) (u0 u1 u2 u3 u5 u9 u10 u11 u13 u14 u15 u16 u17 u18 u19 u20 u21 u22 u23 u24 u25 u26 u27 u28 u29 u30 u31 u32 u33 u34 u35 u36 u37 u38 u39 u40 u41 u42 u43 u44 u45 u46 u47 u48 u49 u50 u51 u52 u53 u54 u55 u56 u57 u58 u59 u60 u61 u62 u63 u64 u65 u66 u67 u68 u69 u70 u71 u72 u73 u74 u75 u76 u77 u78 u79 u80 u81 u82 u83 u84 u85 u86 u87 u88 u89 u90 u91 u92 u93 u94 u95 u96 u97 u98 u99 u100 u101 u102 u103 u104 u105 u106 u107 u108 u109 u110 u111 u112 u113 u114 u115 u116 u117 u118 u119 u120 u121 u122 u123 u124 u125 u126 u127 u128 u129 u130 u131 u132 u133 u134 u135 u136 u137 u138 u139 u140 u141 u142 u143 u144 u145 u146 u147 u148 u149 u150 u151 u152 u153 u154 u155 u156 u157 u158 u159 u160 u161 u162 u163 u164 u165 u166 u167 u168 u169 u170 u171 u172 u173 u174 u175 u176 u177 u178 u179 u180 u181 u182 u183 u184 u185 u186 u187 u188 u189 u190 u191 u192 u193 u194 u195 u196 u197 u198 u199 u200 u201 u202 u203 u204 u205 u206 u207 u208 u209 u210 u211 u212 u213 u214 u215 u216 u217 u218 u219 u220 u221 u222 u223 u224 u225 u226:Value) (hy:LY w wr Y X p tb root mb sb c k S St.first g cnt ⟨L.map (·.n),lkN L 0,E.map (·.1),M⟩ (.slice A1 m c1) (.slice A2 m c2) (.slice A3 cnt c3)) (hM:M+S.fr.length+1=S.q) (hMM:(Ei [x0] Ds0++P0.flatten).length=M) (ht0:Qb S root x0 Ds0 E P0) (h30:∀ ps∈P0,ps.length≤3) (hq:S.q≤10000) (hc:c≤35000) (hk:k≤1000000) (hcnt:cnt≤250) (hec:E.length=cnt) (hg:∀ k,g k=true↔k∈E.map (·.1)) (hL:L.length=m) (hm:m≤60000) :
 Code.wp Tryz.prog (behind 13 (Tryz.f3.body.getD .skip)) (bodyPost Tryz.prog Tryz.f3 fun e w'=>e = .returned (.bool true)∧Below w.heap.size w w') { tmps:=#[u0,u1,u2,u3,.pointer (some ⟨p,0,none⟩),u5,.int .i64 root,.pointer (some ⟨tb,0,none⟩),.map (some mb),u9,u10,u11,.pointer (some ⟨sb,0,none⟩),u13,u14,u15,u16,u17,u18,u19,u20,u21,u22,u23,u24,u25,u26,u27,u28,u29,u30,u31,u32,u33,u34,u35,u36,u37,u38,u39,u40,u41,u42,u43,u44,u45,u46,u47,u48,u49,u50,u51,u52,u53,u54,u55,u56,u57,u58,u59,u60,u61,u62,u63,u64,u65,u66,u67,u68,u69,u70,u71,u72,u73,u74,u75,u76,u77,u78,u79,u80,u81,u82,u83,u84,u85,u86,u87,u88,u89,u90,u91,u92,u93,u94,u95,u96,u97,u98,u99,u100,u101,u102,u103,u104,u105,u106,u107,u108,u109,u110,u111,u112,u113,u114,u115,u116,u117,u118,u119,u120,u121,u122,u123,u124,u125,u126,u127,u128,u129,u130,u131,u132,u133,u134,u135,u136,u137,u138,u139,u140,u141,u142,u143,u144,u145,u146,u147,u148,u149,u150,u151,u152,u153,u154,u155,u156,u157,u158,u159,u160,u161,u162,u163,u164,u165,u166,u167,u168,u169,u170,u171,u172,u173,u174,u175,u176,u177,u178,u179,u180,u181,u182,u183,u184,u185,u186,u187,u188,u189,u190,u191,u192,u193,u194,u195,u196,u197,u198,u199,u200,u201,u202,u203,u204,u205,u206,u207,u208,u209,u210,u211,u212,u213,u214,u215,u216,u217,u218,u219,u220,u221,u222,u223,u224,u225,u226],defers:=[] } wr:=by
 conv =>
  arg 2
  simp only [Tryz.f3,Option.getD,behind]
 conv =>
  arg 4
  dsimp only
 have s3:wr.cell? ⟨sb,3,none⟩=some (.slice A3 cnt c3):=hy.sh.has.cell 3;have sz:=hy.sh.has.lt;have HH:=Ac (And.intro hM (And.intro hMM (And.intro ht0 (And.intro h30 (And.intro hq (And.intro hc (And.intro hk (And.intro hcnt (And.intro hec (And.intro hg (And.intro hL hm)))))))))));have LY0:=Ac hy;clear hy hM hMM ht0 h30 hq hc hk hec hg hL hm
 go_upto_block 4 with fail
 go_cut [2,15] from 152 to 187 (fun _ _ wx=>LY w wx Y X p tb root mb sb c k S St.first g cnt ⟨L.map (·.n),lkN L 0,E.map (·.1),M⟩ (.slice A1 m c1) (.slice A2 m c2) (.slice A3 cnt c3))
 case first =>
  clear s3 sz
  go_wp2_with fail
  go_loopg [152] cnt (fun gg v152 wx=>∃ q:Nat,q+gg=cnt∧v152 = .int .i64 q∧LY w wx Y X p tb root mb sb c k S St.first g cnt ⟨L.map (·.n),lkN L 0,E.map (·.1),M⟩ (.slice A1 m c1) (.slice A2 m c2) (.slice A3 cnt c3))
  case atStart=>exact ⟨0,by omega,rfl,LY0.out⟩
  case round =>
   obtain ⟨q,r8,rfl,r9⟩:=hrel;clear LY0;have s3:wr.cell? ⟨sb,3,none⟩=some (.slice A3 cnt c3):=r9.sh.has.cell 3;have sz:=r9.sh.has.lt
   by_cases hqc:q<cnt
   ·have j2:(q:Int)<(cnt:Int):=by omega
    obtain ⟨A4,c4,e4,q4⟩:=KC0 (r9.sh.ob.own 2 rfl) (m:=cnt) ((List.length_map _).trans HH.out.2.2.2.2.2.2.2.2.1)
    obtain ⟨e5,e6,e7⟩:A3=A4∧True∧c3=c4:=by injection e4 with h1 h2 h3;exact ⟨h1,trivial,h3⟩
    rw [← e5] at q4
    obtain ⟨b3,e3,l3,cc3⟩:=q4 (by omega)
    have hql:q<(E.map (·.1)).length:=by rw [List.length_map,HH.out.2.2.2.2.2.2.2.2.1];exact hqc
    obtain ⟨x,hx⟩:∃ x,(E.map (·.1))[q]? = some x:=⟨_,List.getElem?_eq_getElem hql⟩
    have d3:=cc3 _ _ hx;have hgx:g x=true:=(HH.out.2.2.2.2.2.2.2.2.2.1 x).2 (List.mem_of_getElem? hx)
    have hxl:(bsK x).size≤1000000:=by rw [Bo];have:=HH.out.2.2.1.FH1 x (List.mem_of_getElem? hx);omega
    have LK:=fun W (h:LY w W Y X p tb root mb sb c k S St.first g cnt ⟨L.map (·.n),lkN L 0,E.map (·.1),M⟩ (.slice A1 m c1) (.slice A2 m c2) (.slice A3 cnt c3))=>h.lx.sm.look (bsK x) hxl
    rw [Dn,if_pos hgx] at LK
    have LKC:=Ac (fun W (hb:Below wr.heap.size wr W)=>LK W (r9.below hb))
    have LYD:=Ac (fun W (hb:Below wr.heap.size wr W)=>r9.below hb)
    have FQ:=Ac hqc;clear r9 e4 e5 e6 e7 q4 hgx LK hxl
    cases q with
    | zero =>
      obtain ⟨K,hK⟩:∃ k,bsK x=k:=⟨_,rfl⟩;rw [hK] at d3 LKC;subst e3;clear cc3 hx hK
      rw [show ((0:Nat):Int)=0 from rfl]
      go_wp2_with fail
      refine Bz (wr) (by kernel_rfl) (by kernel_rfl) (Cls.start _) ?_
      repeat
       first
        | go_big_quiet_skip
        | (go_big_quiet_want;(first | go_big_quiet_op | go_simp);first | go_big_quiet_on | (apply Exists.intro;refine ⟨fun w' hw'=>?_, ?_⟩;(·(first | (with_reducible exact rfl) | ((have hl:=LKC.out w' hw'.bel;rw [hl];exact ⟨rfl,rfl⟩)) | (obtain ⟨hc,hf⟩:=hw'.facts;go_simp;first | done | (with_reducible exact rfl) | (with_reducible exact ⟨rfl,rfl⟩))));go_big_quiet_on))
      refine wpQuiet_nil ?_
      intro wq hq
      go_wp2_with fail
      go_roundg (cnt-(0+1))
      case rel=>exact ⟨0+1,by have:=FQ.out;omega,by simp,LYD.out _ hq.bel⟩
      case measure=>have:=FQ.out;omega
    | succ q =>
      obtain ⟨y,hy⟩:∃ x,(E.map (·.1))[q]? = some x:=⟨_,List.getElem?_eq_getElem (by omega)⟩
      have d4:=cc3 _ _ hy
      have hlt:ltK y x:=by
       have hp:(E.map (·.1)).Pairwise ltK:=List.pairwise_map.2 HH.out.2.2.1.srt
       obtain ⟨a1,a2⟩:=List.getElem?_eq_some_iff.1 hx;obtain ⟨b1,b2⟩:=List.getElem?_eq_some_iff.1 hy;rw [← a2,← b2]
       exact List.pairwise_iff_getElem.1 hp q (q+1) b1 a1 (by omega)
      have k1:Op.bytesLess (bsK x).toList (bsK y).toList=false:=by rw [Pj];exact He hlt
      have k2:((bsK x).toList == (bsK y).toList)=false:=by rw [PW0,beq_eq_false_iff_ne];exact fun e=>Hq _ (e ▸ hlt)
      obtain ⟨K,hK⟩:∃ k,bsK x=k:=⟨_,rfl⟩;obtain ⟨K2,hK2⟩:∃ k,bsK y=k:=⟨_,rfl⟩;rw [hK] at d3 LKC k1 k2;rw [hK2] at d4 k1 k2;subst e3;clear cc3 hx hK hy hK2 hlt hql
      rw [show ((q+1:Nat):Int)=(q:Int)+1 from rfl] at j2 ⊢
      have j3:(0:Int)<(q:Int)+1:=by omega
      have j4:(q:Int)<(cnt:Int):=by omega
      go_wp2_with fail
      refine Bz (wr) (by kernel_rfl) (by kernel_rfl) (Cls.start _) ?_
      repeat
       first
        | go_big_quiet_skip
        | (go_big_quiet_want;(first | go_big_quiet_op | go_simp);first | go_big_quiet_on | (apply Exists.intro;refine ⟨fun w' hw'=>?_, ?_⟩;(·(first | (with_reducible exact rfl) | ((have hl:=LKC.out w' hw'.bel;rw [hl];exact ⟨rfl,rfl⟩)) | (obtain ⟨hc,hf⟩:=hw'.facts;go_simp;first | done | (with_reducible exact rfl) | (with_reducible exact ⟨rfl,rfl⟩))));go_big_quiet_on))
      refine wpQuiet_nil ?_
      intro wq hq
      go_wp2_with fail
      go_roundg (cnt-(q+1+1))
      case rel=>exact ⟨q+1+1,by have:=FQ.out;omega,by simp,LYD.out _ hq.bel⟩
      case measure=>have:=FQ.out;omega
   ·obtain rfl:q=cnt:=by omega
    have j2:¬ (q:Int)<(q:Int):=by omega
    have LY9:=Ac r9;clear r9
    go_wp2_with fail
    go_meet
    exact LY9.out
 case rest =>
  rename_i ha
  exact ha _ _ (WY0 w _ Y X p tb root mb sb c k cnt M m S g _ _ _ A3 c3 x0 Ds0 E P0 _ _ _ _ _ _ _ _ _ _ _ _ _ _ _ _ _ _ _ _ _ _ _ _ _ _ _ _ _ _ _ _ _ _ _ _ _ _ _ _ _ _ _ _ _ _ _ _ _ _ _ _ _ _ _ _ _ _ _ _ _ _ _ _ _ _ _ _ _ _ _ _ _ _ _ _ _ _ _ _ _ _ _ _ _ _ _ _ _ _ _ _ _ _ _ _ _ _ _ _ _ _ _ _ _ _ _ _ _ _ _ _ _ _ _ _ _ _ _ _ _ _ _ _ _ _ _ _ _ _ _ _ _ _ _ _ _ _ _ _ _ _ _ _ _ _ _ _ _ _ _ _ _ _ _ _ _ _ _ _ _ _ _ _ _ _ _ _ _ _ _ _ _ _ _ _ _ _ _ _ _ _ _ _ _ _ _ _ _ _ _ _ _ _ _ _ _ _ _ _ _ _ _ _ _ _ _ _ _ _ _ _ _ _ _ _ _ _ _ _ _ _ hcut rfl HH.out.1 HH.out.2.1 HH.out.2.2.1 HH.out.2.2.2.1 HH.out.2.2.2.2.1 HH.out.2.2.2.2.2.1 HH.out.2.2.2.2.2.2.1 HH.out.2.2.2.2.2.2.2.1)
theorem UY0 (w wr:World) (X:List (Option Nat)) (p tb root mb c k cnt:Nat) (S:St) (g:Ky→Bool) (E:List En) (u0 u1 u2 u3 u5 u9 u10 u11 u12 u13 u14 u15 u16 u17 u18 u19 u20 u21 u22 u23 u24 u25 u26 u27 u28 u29 u30 u31 u32 u33 u34 u35 u36 u37 u38 u39 u40 u41 u42 u43 u44 u45 u46 u47 u48 u49 u50 u51 u52 u53 u54 u55 u56 u57 u58 u59 u60 u61 u62 u63 u64 u65 u66 u67 u68 u69 u70 u71 u72 u73 u74 u75 u76 u77 u78 u79 u80 u81 u82 u83 u84 u85 u86 u87 u88 u89 u90 u91 u92 u93 u94 u95 u96 u97 u98 u99 u100 u101 u102 u103 u104 u105 u106 u107 u108 u109 u110 u111 u112 u113 u114 u115 u116 u117 u118 u119 u120 u121 u122 u123 u124 u125 u126 u127 u128 u129 u130 u131 u132 u133 u134 u135 u136 u137 u138 u139 u140 u141 u142 u143 u144 u145 u146 u147 u148 u149 u150 u151 u152 u153 u154 u155 u156 u157 u158 u159 u160 u161 u162 u163 u164 u165 u166 u167 u168 u169 u170 u171 u172 u173 u174 u175 u176 u177 u178 u179 u180 u181 u182 u183 u184 u185 u186 u187 u188 u189 u190 u191 u192 u193 u194 u195 u196 u197 u198 u199 u200 u201 u202 u203 u204 u205 u206 u207 u208 u209 u210 u211 u212 u213 u214 u215 u216 u217 u218 u219 u220 u221 u222 u223 u224 u225 u226:Value) (hx:LX w wr X p tb root mb c k S St.first g cnt) (hti:TI S root E g cnt) (hq:S.q≤9000) (hc:c≤35000) (hk:k≤900000) (hcnt:cnt≤250) :
 Code.wp Tryz.prog (behind 10 (Tryz.f3.body.getD .skip)) (bodyPost Tryz.prog Tryz.f3 fun e w'=>e = .returned (.bool true)∧Below w.heap.size w w') { tmps:=#[u0,u1,u2,u3,.pointer (some ⟨p,0,none⟩),u5,.int .i64 root,.pointer (some ⟨tb,0,none⟩),.map (some mb),u9,u10,u11,u12,u13,u14,u15,u16,u17,u18,u19,u20,u21,u22,u23,u24,u25,u26,u27,u28,u29,u30,u31,u32,u33,u34,u35,u36,u37,u38,u39,u40,u41,u42,u43,u44,u45,u46,u47,u48,u49,u50,u51,u52,u53,u54,u55,u56,u57,u58,u59,u60,u61,u62,u63,u64,u65,u66,u67,u68,u69,u70,u71,u72,u73,u74,u75,u76,u77,u78,u79,u80,u81,u82,u83,u84,u85,u86,u87,u88,u89,u90,u91,u92,u93,u94,u95,u96,u97,u98,u99,u100,u101,u102,u103,u104,u105,u106,u107,u108,u109,u110,u111,u112,u113,u114,u115,u116,u117,u118,u119,u120,u121,u122,u123,u124,u125,u126,u127,u128,u129,u130,u131,u132,u133,u134,u135,u136,u137,u138,u139,u140,u141,u142,u143,u144,u145,u146,u147,u148,u149,u150,u151,u152,u153,u154,u155,u156,u157,u158,u159,u160,u161,u162,u163,u164,u165,u166,u167,u168,u169,u170,u171,u172,u173,u174,u175,u176,u177,u178,u179,u180,u181,u182,u183,u184,u185,u186,u187,u188,u189,u190,u191,u192,u193,u194,u195,u196,u197,u198,u199,u200,u201,u202,u203,u204,u205,u206,u207,u208,u209,u210,u211,u212,u213,u214,u215,u216,u217,u218,u219,u220,u221,u222,u223,u224,u225,u226],defers:=[] } wr:=by
 conv =>
  arg 2
  simp only [Tryz.f3,Option.getD,behind]
 conv =>
  arg 4
  dsimp only
 have S0:=Ac (YT0 hx.pt);obtain ⟨x0,Ds0,P0,ht0,h30,hq0,hc0,hg0⟩:=hti;have B1:=Ag wr (.cells #[.int .i64 0,.slice none 0 0,.slice none 0 0,.slice none 0 0,.bool true] 46);have L2:=Ac (hx.below B1)
 obtain ⟨L,hL1,hL2,hL3⟩:=TV0 L2.out.pt ⟨_,_,_,S0.out⟩ ht0 (by omega) (by omega) (by omega) (by omega)
 have ST:=Ac hL3
 have HZ:=Ac (show tb<wr.heap.size∧mb<wr.heap.size∧w.heap.size≤wr.heap.size from ⟨hx.tm.has.lt,hx.sm.lt,hx.be.size⟩)
 obtain ⟨M,hM⟩:∃ m,(Ei [x0] Ds0++P0.flatten).length=m:=⟨_,rfl⟩;rw [hM] at ST hq0;have HM:=Ac (And.intro hq0 (And.intro hM (And.intro ht0 (And.intro h30 (And.intro hq (And.intro hc (And.intro hk (And.intro hcnt (And.intro hc0 (And.intro hg0 hL1))))))))));clear hx B1 hL3 ht0 h30 hq0 hc0 hg0 hL1 hL2 hM
 go_wp2_with fail
 generalize (wr.alloc (.cells #[.int .i64 0,.slice none 0 0,.slice none 0 0,.slice none 0 0,.bool true] 46))=W1 at *
 refine ST.out.mono ?_
 rintro e w2 ⟨dd,Y2,X2,v1,v2,v3,rfl,hp2,hs2,ht2⟩
 have LY0:=Ac (LY.of L2.out (Y:=[some wr.heap.size,none,none,none]) (fun i hi=>by
  have e:i=wr.heap.size:=by simpa using hi
  have:=HZ.out;omega) hp2 hs2 ht2)
 clear hp2 hs2 ht2 ST S0 L2 HZ;obtain ⟨m,hm⟩:∃ m,L.length=m:=⟨_,rfl⟩;obtain ⟨A1,c1,rfl,q1⟩:=LI0 (LY0.out.sh.ob.own 0 rfl) (m:=m) ((List.length_map _).trans hm);obtain ⟨A2,c2,rfl,q2⟩:=LI0 (LY0.out.sh.ob.own 1 rfl) (m:=m) ((OZ0 L 0).trans hm);obtain ⟨A3,c3,rfl,q3⟩:=KC0 (LY0.out.sh.ob.own 2 rfl) (m:=cnt) ((List.length_map _).trans HM.out.2.2.2.2.2.2.2.2.1);have Q1:=Ac q1;have Q2:=Ac q2;have HMM:=Ac hm
 have mle:m≤60000:=by have:=HM.out.2.2.2.2.2.2.2.2.2.2;have:=HM.out.2.2.2.2.1;omega
 clear q1 q2 q3 hm;have s1:=LY0.out.sh.has.cell 1;have s2:=LY0.out.sh.has.cell 2;have sz:=LY0.out.sh.has.lt
 generalize wr.heap.size=sb at *
 go_upto_block 2 with fail
 go_cut [2,13,14] from 107 to 146 (fun _ _ _ wx=>wx=w2)
 case first =>
  go_wp2_with fail
  go_loopg [107] m (fun gg v107 wr2=>∃ j:Nat,j+gg=m∧v107 = .int .i64 j∧wr2=w2)
  case atStart=>exact ⟨0,by omega,rfl,rfl⟩
  case round =>
   obtain ⟨j,r7,rfl,rfl⟩:=hrel
   by_cases hj:j<m
   ·have j1:(j:Int)<(m:Int):=by omega
    obtain ⟨b1,e1,l1,cc1⟩:=Q1.out (by omega)
    obtain ⟨b2,e2,l2,cc2⟩:=Q2.out (by omega)
    have hlk:=YW0 (L:=L) (j:=j) (by rw [HMM.out];exact hj)
    by_cases hl:j+1<m
    ·rw [dif_pos (by rw [HMM.out];exact hl)] at hlk
     obtain ⟨x,hx⟩:∃ x,(L.map (·.n))[j+1]? = some x:=⟨_,List.getElem?_eq_getElem (by rw [List.length_map,HMM.out];exact hl)⟩
     have hx2:(L.map (·.n))[j+1]'(by rw [List.length_map,HMM.out];exact hl)=x:=(List.getElem?_eq_some_iff.1 hx).2
     rw [hx2] at hlk;have d1:=cc1 _ _ hx;have d2:=cc2 _ _ hlk
     have j2:(j:Int)+1<(m:Int):=by omega
     have FJ:=Ac hj;subst e1 e2;clear cc1 cc2 hlk hx hx2
     go_wp2_with fail
     go_roundg (m-(j+1))
     case rel=>exact ⟨j+1,by have:=FJ.out;omega,by simp,rfl⟩
     case measure=>have:=FJ.out;omega
    ·rw [dif_neg (by rw [HMM.out];exact hl)] at hlk
     have d2:=cc2 _ _ hlk
     have j2:¬ (j:Int)+1<(m:Int):=by omega
     have j3:((j:Int)+1 == (m:Int))=true:=by rw [beq_iff_eq];omega
     have FJ:=Ac hj;subst e1 e2;clear cc1 cc2 hlk
     go_wp2_with fail
     go_roundg (m-(j+1))
     case rel=>exact ⟨j+1,by have:=FJ.out;omega,by simp,rfl⟩
     case measure=>have:=FJ.out;omega
   ·obtain rfl:j=m:=by omega
    have j1:¬ (j:Int)<(j:Int):=by omega
    go_wp2_with fail
    go_meet
    rfl
 case rest =>
  rename_i ha
  subst hcut
  exact ha _ _ (XU0 w _ Y2 X2 p tb root mb sb _ _ cnt M m S g L A1 A2 A3 c1 c2 c3 x0 Ds0 E P0 _ _ _ _ _ _ _ _ _ _ _ _ _ _ _ _ _ _ _ _ _ _ _ _ _ _ _ _ _ _ _ _ _ _ _ _ _ _ _ _ _ _ _ _ _ _ _ _ _ _ _ _ _ _ _ _ _ _ _ _ _ _ _ _ _ _ _ _ _ _ _ _ _ _ _ _ _ _ _ _ _ _ _ _ _ _ _ _ _ _ _ _ _ _ _ _ _ _ _ _ _ _ _ _ _ _ _ _ _ _ _ _ _ _ _ _ _ _ _ _ _ _ _ _ _ _ _ _ _ _ _ _ _ _ _ _ _ _ _ _ _ _ _ _ _ _ _ _ _ _ _ _ _ _ _ _ _ _ _ _ _ _ _ _ _ _ _ _ _ _ _ _ _ _ _ _ _ _ _ _ _ _ _ _ _ _ _ _ _ _ _ _ _ _ _ _ _ _ _ _ _ _ _ _ _ _ _ _ _ _ _ _ _ _ _ _ _ _ _ _ _ _ LY0.out HM.out.1 HM.out.2.1 HM.out.2.2.1 HM.out.2.2.2.1 (by have:=HM.out.2.2.2.2.1;omega) HM.out.2.2.2.2.2.1 (by have:=HM.out.1;have:=HM.out.2.2.2.2.1;have:=HM.out.2.2.2.2.2.2.1;omega) HM.out.2.2.2.2.2.2.2.1 HM.out.2.2.2.2.2.2.2.2.1 HM.out.2.2.2.2.2.2.2.2.2.1 HMM.out mle)
attribute [local go_sem] Fv Cj Bq Act.put
theorem WR0 (w:World):(Instr.makeMap 33 none).run Tryz.prog w = .ok (.map (some w.heap.size)) (w.alloc (.map #[] 0)):=rfl
theorem GT0 (A:Option Addr) (n c:Nat) (acts:List IG0) (w:World) (h:KS w A n acts) (hc:n≤c) (hB:∀ a∈acts,a.s.size≤140737488351232∧a.t.size≤140737488351232) :
 Calls Tryz.prog 3 #[.slice A n c] w fun e w'=>e = .returned (.bool true)∧Below w.heap.size w w':=by
 have HA:=Ac (h.take (k:=min n 250) (by omega))
 have HBB:=Ac (show ∀ a∈acts.take (min n 250),a.s.size≤140737488351232∧a.t.size≤140737488351232 from fun a ha=>hB a (List.mem_of_mem_take ha))
 have TS:=Ac (fun w1=>SQ0 A n c hc w1)
 obtain ⟨N,hN⟩:∃ N,min n 250=N:=⟨_,rfl⟩
 have hN2:N≤250:=by omega
 obtain ⟨al,has⟩:∃ al,acts.take (min n 250)=al:=⟨_,rfl⟩;rw [has] at HA HBB;rw [hN] at HA TS;have hmm:=WR0;clear h hc hN has hB
 go_enter Tryz.func3,Tryz.ntmps3
 go_wp2_with fail
 refine (BO1 w).mono ?_
 rintro e w1 ⟨gd,b0,rfl,hp,ht1⟩;have OP:=Ac (TK0 hp);have HT1:=Ac ht1;clear hp ht1
 go_upto_block 0 with (first
  | (go_at_call 7;(with_reducible refine OP.out.mono ?_);rintro e w3 ⟨p,X,rfl,hp3,ht3⟩;have P3:=Ac hp3;have T3:=Ac (HT1.out.trans ht3);have CR:=Ac (NN0 hp3 (by omega) (by omega) (by show 1≤50000;omega));clear hp3 ht3)
  | (go_at_call 8;(with_reducible refine CR.out.mono ?_);rintro e w4 ⟨rfl,X4,hp4,ht4⟩;have P4:=Ac hp4;have T4:=Ac (T3.out.trans ht4);clear hp4 ht4)
  | (go_at_call 9;(refine VM0.mono ?_);rintro e w5 ⟨rfl,rfl⟩)
  | (go_at_call 10;refine (TS.out _).mono ?_;rintro e w1 ⟨rfl,rfl⟩))
 obtain ⟨root,hroot⟩:∃ r,St.first.Ah=r:=⟨_,rfl⟩
 have ok0:=P3.out.ok
 obtain ⟨tn,mv⟩:=AV1 ok0 (by show 1≤60000;omega)
 have hcnt:=mv.count (show ([]:List Nat).length+St.first.fr.length+1=St.first.q from rfl)
 have hq0:(St.first.alloc.set St.first.Ah (1,0,[])).q≤2:=Nat.le_refl 2
 have p4:=P4.out;rw [hroot] at tn hcnt hq0 p4;rw [hroot]
 obtain ⟨S1,hS1⟩:∃ S,St.first.alloc.set root (1,0,[])=S:=⟨_,rfl⟩
 rw [hS1] at tn hcnt hq0 p4
 have TI0:TI S1 root [] (fun _=>false) 0:=⟨_,_,_,tn,fun ps hps=>(by cases hps),hcnt,rfl,fun k=>by simp⟩
 have B5:Below w4.heap.size w4 ((w4.alloc (.cells #[.pointer (some ⟨p,0,none⟩),.int .i64 root] 111)).alloc (.map #[] 0)):=((Below.refl _ _).alloc (Nat.le_refl _) _).alloc (by simp) _
 have ms:=SM.made (w4.alloc (.cells #[.pointer (some ⟨p,0,none⟩),.int .i64 root] 111));rw [World.size_alloc] at ms
 have hb4:Below w.heap.size w w4:=T4.out.bel (Below.refl _ _) (fun k hk=>by cases hk) (Nat.le_refl _)
 have L0:LX w ((w4.alloc (.cells #[.pointer (some ⟨p,0,none⟩),.int .i64 root] 111)).alloc (.map #[] 0)) X4 p w4.heap.size root (w4.heap.size+1) (4+120*0) (105+220*0) S1 St.first (fun _=>false) 0 :=
  ⟨p4.below B5,⟨(Has.new w4 _ _).alloc _,fun hm=>by have:=p4.lt _ hm;omega⟩,ms,fun hm=>by have:=p4.lt _ hm;omega,hb4.trans (B5.mono hb4.size),T4.out.low (fun k hk=>by cases hk) (Nat.le_refl _),by have:=hb4.size;omega⟩
 have FL:=Ac (show FW1 w p w4.heap.size root (w4.heap.size+1) N N (.int .i64 0) _ from ⟨0,S1,X4,[],_,0,by omega,rfl,L0,TI0,by omega,Nat.le_refl _⟩)
 clear P3 T3 P4 T4 OP CR HT1 ok0 tn mv hcnt hq0 p4 TI0 B5 ms hb4 L0 hS1 hroot hmm
 generalize ((w4.alloc (.cells #[.pointer (some ⟨p,0,none⟩),.int .i64 root] 111)).alloc (.map #[] 0))=W0 at *
 generalize w4.heap.size+1=mb at *
 generalize w4.heap.size=tb at *
 go_cut [2,5,10,11] from 48 to 95 (fun _ _ _ _ wx=>∃ (S:St) (X:List (Option Nat)) (E:List En) (g:Ky→Bool) (cnt:Nat),LX w wx X p tb root mb (4+120*N) (105+220*N) S St.first g cnt∧TI S root E g cnt∧S.q≤2+21*N∧cnt≤N)
 case first =>
  go_wp2_with fail
  go_loopg [48] N (fun gg v48 wr=>FW1 w p tb root mb N gg v48 wr)
  case atStart=>exact FL.out
  case round =>
   obtain ⟨i,S,X5,E,g,cnt,r1,rfl,r3,r4,r5,r6⟩:=hrel;have L1:=Ac r3;have T1:=Ac (And.intro r4 (And.intro r5 r6))
   by_cases hi:i<N
   ·have hi1:(i:Int)<(N:Int):=by omega
    have hil:i<al.length:=by rw [HA.out.len];exact hi
    obtain ⟨ba,oa,eA,hba,hcc⟩:=HA.out.cells (by omega)
    have hce:=fun (j:Nat) (u:Value) (hj:al[i].arr[j]? = some u)=>(r3.be.cell (p:=⟨ba,oa+i*6+j,none⟩) hba).trans (hcc i al[i] (List.getElem?_eq_getElem hil) j u hj)
    have hok:=HA.out.ok al[i] (List.getElem_mem _);obtain ⟨a,ha⟩:∃ a,al[i]=a:=⟨_,rfl⟩;rw [ha] at hok;simp only [ha] at hce;have d0:wr.cell? ⟨ba,oa+i*6,none⟩=some (.int .i64 a.kind):=hce 0 _ rfl;have d1:wr.cell? ⟨ba,oa+i*6+1,none⟩=some (.int .i64 a.f):=hce 1 _ rfl;have d2:wr.cell? ⟨ba,oa+i*6+2,none⟩=some (.int .i64 a.at_):=hce 2 _ rfl;have d3:wr.cell? ⟨ba,oa+i*6+3,none⟩=some (.int .i64 a.n):=hce 3 _ rfl
    have d4:wr.cell? ⟨ba,oa+i*6+4,none⟩=some (.string a.s):=hce 4 _ rfl;have d5:wr.cell? ⟨ba,oa+i*6+5,none⟩=some (.string a.t):=hce 5 _ rfl;have zb:ba<wr.heap.size:=Nat.lt_of_lt_of_le hba r3.be.size;have hbb:=HBB.out al[i] (List.getElem_mem _);rw [ha] at hbb;obtain ⟨zs,zt⟩:=hbb;have HOK:=Ac hok;subst eA;clear hcc hce hok ha r3 r4 r5 r6 FL
    go_upto_region 16 with fail
    have KS:=Ac (fun h=>XJ0 (s:=a.s) h)
    have KL:=Ac (ZH0 a.s)
    have hz:(a.s++⟨#[107]⟩:ByteArray).size=a.s.size+1:=by simp;rfl
    obtain ⟨T,hT⟩:∃ t,a.s++(⟨#[107]⟩:ByteArray)=t:=⟨_,rfl⟩;rw [hT] at KS KL hz;rw [hT];have BX:=Ac (Has.new wr 36 #[.int .i64 a.kind,.int .i64 a.f,.int .i64 a.at_,.int .i64 a.n,.string a.s,.string a.t]);have L2:=Ac (L1.out.below ((Below.refl _ _).alloc (Nat.le_refl _) (.cells #[.int .i64 a.kind,.int .i64 a.f,.int .i64 a.at_,.int .i64 a.n,.string a.s,.string a.t] 36)))
    have XZ:=Ac (show some wr.heap.size∉X5 from fun hm=>by have:=L1.out.pt.lt _ hm;omega)
    have BZ:=Ac (show mb≠wr.heap.size from fun e=>by have:=L1.out.sm.lt;omega)
    clear hT d0 d1 d2 d3 d4 d5 zb L1 hba
    generalize (wr.alloc (.cells #[.int .i64 a.kind,.int .i64 a.f,.int .i64 a.at_,.int .i64 a.n,.string a.s,.string a.t] 36))=W2 at *
    generalize wr.heap.size=z at *
    go_cut [57] from 55 to 57 (fun v57 wx=>v57 = .bool (decide ((200:Int)<(T.size:Int)))∧wx=W2)
    case first =>
     clear hz
     go_wp2_with fail
     go_meet
     exact ⟨rfl,rfl⟩
    case rest =>
    obtain ⟨rfl,hw⟩:=hcut;subst hw
    rename_i ha
    refine ha _ _ ?_
    go_cut [11] from 58 to 59 (fun v11 wx=>v11 = .string (bsK (MT0 a))∧wx=wc)
    case first =>
     by_cases hl:a.s.size+1≤200
     ·have j1:¬ (200:Int)<(T.size:Int):=by omega
      clear hz
      go_wp2_with fail
      go_meet
      exact ⟨congrArg Value.string (KS.out hl),rfl⟩
     ·have j1:(200:Int)<(T.size:Int):=by omega
      have j3:(200:Int)≤(T.size:Int):=by omega
      clear hz
      go_wp2_with fail
      go_meet
      exact ⟨congrArg Value.string KL.out,rfl⟩
    case rest =>
     obtain ⟨rfl,rfl⟩:=hcut;clear KS KL hz
     have PK:=Ac (fun w1=>JL0 a.kind 3 HOK.out.kind (by omega) (by omega) w1)
     rw [show ((3:Nat):Int)=3 from rfl] at PK
     obtain ⟨pk,hpk⟩:∃ p,AV0 a.kind 3=p:=⟨_,rfl⟩;rw [hpk] at PK;have z0:wc.cell? ⟨z,0,none⟩=some (.int .i64 a.kind):=BX.out.cell 0;have zz:=BX.out.lt
     by_cases hpk2:pk<2
     ·have j2:(pk:Int)<2:=by omega
      go_upto_region 19 with (go_at_call 11;refine (PK.out _).mono ?_;rintro e w1 ⟨rfl,rfl⟩)
      have PN:=Ac (fun w1=>(JL0 a.n 2900 HOK.out.n (by omega) (by omega) w1).mono (R':=fun e w'=>e = .returned (.int .i64 (AV0 a.n 2900:Nat))∧Below w1.heap.size w1 w') (by rintro e w' ⟨h1,rfl⟩;exact ⟨h1,Below.refl _ _⟩))
      rw [show ((2900:Nat):Int)=2900 from rfl] at PN
      have hpn:=ZN0 a.n (show 0<2900 by omega)
      have VT:=Ac (ZP0 a);have hvl:=BT1 a;obtain ⟨pn,hpn2⟩:∃ p,AV0 a.n 2900=p:=⟨_,rfl⟩;rw [hpn2] at PN hpn VT hvl
      have hzs:(bsOf (List.replicate pn 0)).size=pn:=by rw [Bv,List.length_replicate]
      have MK:=Ac (fun W=>NA0 pn (by omega) W)
      have MZ:=Ac (fun W=>WE0 pn W)
      have CV:=Ac (fun (W:World) A c (h:BS W A pn (List.replicate pn 0))=>Wv (c:=c) h)
      obtain ⟨ZS,hZS⟩:∃ z,bsOf (List.replicate pn 0)=z:=⟨_,rfl⟩;rw [hZS] at VT CV hzs
      have zs2:ZS.size≤2900:=by omega
      have z3:wc.cell? ⟨z,3,none⟩=some (.int .i64 a.n):=BX.out.cell 3;have z5:wc.cell? ⟨z,5,none⟩=some (.string a.t):=BX.out.cell 5;clear hzs hZS hpn2
      refine Eo 10 (Cls (wc)) (prP [fun u _=>u = .pointer (some ⟨tb,0,none⟩),fun u _=>u = .string (bsK (MT0 a)),fun u _=>u = .pointer (some ⟨z,5,none⟩),fun u _=>u = .string a.t,fun u _=>u = .pointer (some ⟨z,3,none⟩),fun u _=>u = .int .i64 a.n,fun u _=>u = .int .i64 (pn:Nat),BV pn (List.replicate pn 0),fun u _=>u = .string ZS,fun u _=>u = .string (bsK (AJ1 a))]) (by kernel_rfl) (by kernel_rfl) (by kernel_rfl) (fun _ _ hC hb=>Cls.step hC hb) ?hst (Cls.start _) ?hops ?hend
      case hst=>exact Yu _ ⟨Ip _,Ip _,Ip _,Ip _,Ip _,Ip _,Ip _,Qd _ _,Ip _,Ip _,trivial⟩
      case hops =>
       intro us wx hus hC
       obtain ⟨u0,u1,u2,u3,u4,u5,u6,u7,u8,u9,rfl⟩:∃ u0 u1 u2 u3 u4 u5 u6 u7 u8 u9,us=[u0,u1,u2,u3,u4,u5,u6,u7,u8,u9]:=by
        match us,hus with
        | [u0,u1,u2,u3,u4,u5,u6,u7,u8,u9],_=>exact ⟨u0,u1,u2,u3,u4,u5,u6,u7,u8,u9,rfl⟩
       clear hus;simp only [Bq,Act.put,List.take_succ_cons,List.take_zero,List.setIfInBounds_toArray,List.set_cons_zero,List.set_cons_succ]
       refine ⟨fun h=>?_,fun h=>?_,fun h=>?_,fun h=>?_,fun h=>?_,fun h=>?_,fun h=>?_,fun h=>?_,fun h=>?_,fun h=>?_,trivial⟩
       ·(clear h;refine Ae rfl ?_;go_simp;exact ⟨Below.refl _ _,rfl⟩)
       ·(clear h;refine Ae rfl ?_;go_simp;exact ⟨Below.refl _ _,rfl⟩)
       ·(clear h;refine Ae rfl ?_;go_simp;exact ⟨Below.refl _ _,rfl⟩)
       ·obtain rfl:=h 2 rfl
        (clear h;refine Ae rfl ?_;obtain ⟨hc,hf⟩:=hC.facts;go_simp;exact ⟨Below.refl _ _,rfl⟩)
       ·(clear h;refine Ae rfl ?_;go_simp;exact ⟨Below.refl _ _,rfl⟩)
       ·obtain rfl:=h 4 rfl
        (clear h;refine Ae rfl ?_;obtain ⟨hc,hf⟩:=hC.facts;go_simp;exact ⟨Below.refl _ _,rfl⟩)
       ·obtain rfl:=h 5 rfl
        (clear h;refine Ae rfl ?_;go_simp;refine (PN.out _).mono ?_;rintro e w1 ⟨rfl,hb⟩;exact ⟨_,rfl,hb,rfl⟩)
       ·obtain rfl:=h 6 rfl
        have hmk:=MK.out wx;have hmz:=MZ.out wx;clear h;refine Ae rfl ?_;go_simp;exact ⟨Ag _ _,_,_,rfl,hmz⟩
       ·obtain ⟨A3,c3,rfl,hB3⟩:=h 7 rfl
        have hcv:=CV.out wx A3 c3 hB3;clear h;refine Ae rfl ?_;go_simp;exact ⟨Below.refl _ _,rfl⟩
       ·obtain rfl:=h 3 rfl
        obtain rfl:=h 8 rfl
        have nlt:¬ 9223372036854775807<a.t.size+ZS.size:=by omega
        (clear h;refine Ae rfl ?_;go_simp;exact ⟨Below.refl _ _,congrArg Value.string VT.out⟩)
      case hend =>
      intro us wx hus hC
      obtain ⟨u0,u1,u2,u3,u4,u5,u6,u7,u8,u9,rfl⟩:∃ u0 u1 u2 u3 u4 u5 u6 u7 u8 u9,us=[u0,u1,u2,u3,u4,u5,u6,u7,u8,u9]:=by
       match us,hus with
       | [u0,u1,u2,u3,u4,u5,u6,u7,u8,u9],_=>exact ⟨u0,u1,u2,u3,u4,u5,u6,u7,u8,u9,rfl⟩
      clear hus;intro hall;obtain ⟨h0,h1,h2,h3,h4,h5,h6,h7,h8,h9,_⟩:=hall;obtain rfl:=h0;obtain rfl:=h1;obtain rfl:=h9;have L3:=Ac (L2.out.below hC.bel);have BX3:=Ac (BX.out.Aj hC.bel);clear h2 h3 h4 h5 h6 h7 h8 hC PN MK MZ CV VT z0 z3 z5 zz;simp only [Bq,Act.put,List.take_succ_cons,List.take_zero,List.drop_succ_cons,List.drop_zero,List.setIfInBounds_toArray,List.set_cons_zero,List.set_cons_succ]
      have kz:(bsK (MT0 a)).size≤1000000:=by rw [Bo];have:=(Ya a).2;omega
      have kd:(bsK (MT0 a)).data.toList=MT0 a:=Dn _;have FI:=Ac hi
      have CB:=Ac (show cnt≤100000000 by have:=T1.out.2.2;omega)
      by_cases hvb:(AJ1 a).length≤3000
      ·obtain ⟨x0,Ds0,P0,ht0,h30,hq0,hc0,hg0⟩:=T1.out.1
       have PU:=Ac (BI1 L3.out.pt L3.out.tm (by omega) (by omega) (by have:=T1.out.2.1;omega) ht0 h30 (Ya a) hvb)
       have TF:=Ac (fun S' x' Ds' P' h1 h2 h3=>TI.put (S':=S') (x:=x') (Ds:=Ds') (P:=P') (k:=MT0 a) (v:=AJ1 a) ht0 hq0 hc0 hg0 h1 h2 h3)
       obtain ⟨K,hK⟩:∃ k,bsK (MT0 a)=k:=⟨_,rfl⟩;obtain ⟨V,hV⟩:∃ k,bsK (AJ1 a)=k:=⟨_,rfl⟩;rw [hK] at PU kz kd;rw [hV] at PU;rw [hK,hV];have KD:=Ac kd;have KZ:=Ac kz;clear ht0 h30 hq0 hc0 hg0 hvl hvb hK hV kz kd zs zt zs2
       go_wp2_with (first
        | (go_at_call 12;(with_reducible refine PU.out.mono ?_);rintro e w7 ⟨rfl,S7,x7,Ds7,P7,X7,hp7,ht7,hs7,hm7,h37,hq7⟩;have L7:=Ac (L3.out.turn hp7 ht7);have T7:=Ac (And.intro (TF.out S7 x7 Ds7 P7 hs7 hm7 h37) hq7);clear hp7 ht7 hs7 hm7 h37 hq7)
        | (at_mapUpdate;refine Xj _ rfl _ _ _ rfl rfl mb cnt g rfl L7.out.sm CB.out K rfl KZ.out ?_;intro w8 hm8 hg8;have L8:=Ac (L7.out.map hm8 hg8);clear hm8 hg8))
       go_roundg (N-(i+1))
       case rel =>
        have t7:=T7.out.1;rw [← KD.out] at t7
        refine ⟨i+1,S7,X7,_,_,_,by have:=FI.out;omega,by simp, ?_,t7,by have:=T7.out.2;have:=T1.out.2.1;omega,by have:=T1.out.2.2;split <;> omega⟩
        rw [show 4+120*(i+1)=4+120*i+120 by omega,show 105+220*(i+1)=105+220*i+220 by omega]
        exact L8.out
       case measure=>have:=FI.out;omega
      ·have hvb2:3000<(AJ1 a).length:=by omega
       have PU:=Ac (fun W=>EZ0 (w:=W) (tv:=.pointer (some ⟨tb,0,none⟩)) (Ya a) hvb2)
       have z5:wx.cell? ⟨z,5,none⟩=some (.string a.t):=BX3.out.cell 5;have zz:=BX3.out.lt
       have j5:(100:Int)<(a.t.size:Int):=by omega
       obtain ⟨K,hK⟩:∃ k,bsK (MT0 a)=k:=⟨_,rfl⟩;obtain ⟨V,hV⟩:∃ k,bsK (AJ1 a)=k:=⟨_,rfl⟩;rw [hK] at PU kz kd;rw [hV] at PU;rw [hK,hV];have KZ:=Ac kz;clear hvl hvb hvb2 hK hV kz kd zs zt zs2
       go_wp2_with (first
        | (go_at_call 12;(with_reducible refine (PU.out _).mono ?_);rintro e w7 ⟨rfl,hb7⟩;have L7:=Ac (L3.out.below hb7);have BX7:=Ac (BX3.out.Aj hb7);clear hb7 z5 zz)
        | (at_mapUpdate;refine Xj _ rfl _ _ _ rfl rfl mb cnt g rfl L7.out.sm CB.out K rfl KZ.out ?_;intro w8 hm8 hg8;have L8:=Ac (L7.out.map hm8 hg8);have z5:w8.cell? ⟨z,5,none⟩=some (.string a.t):=(BX7.out.grown hg8 (fun e=>BZ.out (Option.some.inj e).symm)).cell 5;have zz:=(BX7.out.grown hg8 (fun e=>BZ.out (Option.some.inj e).symm)).lt;clear hm8 hg8))
       go_ret
       exact ⟨rfl,L8.out.be⟩
     ·have j2:¬ (pk:Int)<2:=by omega
      have kz:(bsK (MT0 a)).size≤1000000:=by rw [Bo];have:=(Ya a).2;omega
      have kd:(bsK (MT0 a)).data.toList=MT0 a:=Dn _;have FI:=Ac hi;obtain ⟨x0,Ds0,P0,ht0,h30,hq0,hc0,hg0⟩:=T1.out.1
      have PU:=Ac (ND0 L2.out.pt L2.out.tm (by omega) (by omega) (by have:=T1.out.2.1;omega) ht0 h30 (Ya a))
      have TF:=Ac (fun S' x' Ds' P' h1 h2 h3=>TI.del (S':=S') (x:=x') (Ds:=Ds') (P:=P') (k:=MT0 a) ht0 hq0 hc0 hg0 h1 h2 h3)
      obtain ⟨K,hK⟩:∃ k,bsK (MT0 a)=k:=⟨_,rfl⟩;rw [hK] at PU kz kd;rw [hK];have KD:=Ac kd;have KZ:=Ac kz;clear ht0 h30 hq0 hc0 hg0 hK kz kd zs zt
      go_wp2_with (first
       | (go_at_call 11;refine (PK.out _).mono ?_;rintro e w1 ⟨rfl,rfl⟩)
       | (go_at_call 13;(with_reducible refine PU.out.mono ?_);rintro e w7 ⟨rfl,S7,x7,Ds7,P7,X7,hp7,ht7,hs7,hm7,h37,hq7⟩;have L7:=Ac (L2.out.turn hp7 ht7);have T7:=Ac (And.intro (TF.out S7 x7 Ds7 P7 hs7 hm7 h37) hq7);clear hp7 ht7 hs7 hm7 h37 hq7)
       | (at_delete;refine IP0 _ rfl _ _ rfl mb cnt g rfl L7.out.sm K rfl KZ.out ?_;intro w8 hm8 hg8;have L8:=Ac (L7.out.map hm8 hg8);clear hm8 hg8))
      go_roundg (N-(i+1))
      case rel =>
       have t7:=T7.out.1;rw [← KD.out] at t7
       refine ⟨i+1,S7,X7,_,_,_,by have:=FI.out;omega,by simp, ?_,t7,by have:=T7.out.2;have:=T1.out.2.1;omega,by have:=T1.out.2.2;split <;> omega⟩
       rw [show 4+120*(i+1)=4+120*i+120 by omega,show 105+220*(i+1)=105+220*i+220 by omega]
       exact L8.out
      case measure=>have:=FI.out;omega
   ·obtain rfl:i=N:=by omega
    have hi1:¬ (i:Int)<(i:Int):=by omega
    clear r3 r4 r5 r6 FL
    go_wp2_with fail
    go_meet
    exact ⟨S,X5,E,g,cnt,L1.out,T1.out.1,T1.out.2.1,T1.out.2.2⟩
 case rest =>
  rename_i ha
  obtain ⟨S,X5,E,g,cnt,q1,q2,q3,q4⟩:=hcut
  exact ha _ _ (UY0 w _ X5 p tb root mb _ _ cnt S g E _ _ _ _ _ _ _ _ _ _ _ _ _ _ _ _ _ _ _ _ _ _ _ _ _ _ _ _ _ _ _ _ _ _ _ _ _ _ _ _ _ _ _ _ _ _ _ _ _ _ _ _ _ _ _ _ _ _ _ _ _ _ _ _ _ _ _ _ _ _ _ _ _ _ _ _ _ _ _ _ _ _ _ _ _ _ _ _ _ _ _ _ _ _ _ _ _ _ _ _ _ _ _ _ _ _ _ _ _ _ _ _ _ _ _ _ _ _ _ _ _ _ _ _ _ _ _ _ _ _ _ _ _ _ _ _ _ _ _ _ _ _ _ _ _ _ _ _ _ _ _ _ _ _ _ _ _ _ _ _ _ _ _ _ _ _ _ _ _ _ _ _ _ _ _ _ _ _ _ _ _ _ _ _ _ _ _ _ _ _ _ _ _ _ _ _ _ _ _ _ _ _ _ _ _ _ _ _ _ _ _ _ _ _ _ _ _ _ _ _ _ _ _ q1 q2 (by omega) (by omega) (by omega) (by omega))
end Go.Proofs.YtjihboddejaelaaGreat
namespace Go.Proofs.YtjihboddejaelaaGreat
open Go.ChangeShapes Go.WideShapes Go.ChangeAt Go.RowKit
def DZ1 {H:Type} (a:IG0) (y:DataW H):Prop:=∃ x0 x1 x2 x3,y = .agg [x0,x1,x2,x3,.lit (.string a.s.data.toList),.lit (.string a.t.data.toList)]
section
variable {H:Type} {enc:TypeId×Value→H} {W:World}
theorem WZ0 {fuel:Nat} {cs:List Value} {x:DataW H×List MemPlace} (h:DataW.trod enc Tryz.prog W 0 (fun _=>true) true fuel 36 cs=some x):∃ a:IG0,cs=a.arr.toList∧a.Ok∧DZ1 a x.1:=by
 obtain ⟨xs,n,_,hx,hl,hlen,hf⟩:=DataW.trod_struct Tryz.underlying36 h;rw [LG0] at hl
 match cs,hl,xs,hlen with
 | [c0,c1,c2,c3,c4,c5],_,[y0,y1,y2,y3,y4,y5],_ =>
   have g0:DataW.trod enc Tryz.prog W 0 (fun _=>true) true n 3 (([c0,c1,c2,c3,c4,c5].drop 0).take (Tryz.prog.cellsOf 3))=some y0:=hf 0 _ rfl
   have g1:DataW.trod enc Tryz.prog W 0 (fun _=>true) true n 3 (([c0,c1,c2,c3,c4,c5].drop 1).take (Tryz.prog.cellsOf 3))=some y1:=hf 1 _ rfl
   have g2:DataW.trod enc Tryz.prog W 0 (fun _=>true) true n 3 (([c0,c1,c2,c3,c4,c5].drop 2).take (Tryz.prog.cellsOf 3))=some y2:=hf 2 _ rfl
   have g3:DataW.trod enc Tryz.prog W 0 (fun _=>true) true n 3 (([c0,c1,c2,c3,c4,c5].drop 3).take (Tryz.prog.cellsOf 3))=some y3:=hf 3 _ rfl
   have g4:DataW.trod enc Tryz.prog W 0 (fun _=>true) true n 9 (([c0,c1,c2,c3,c4,c5].drop 4).take (Tryz.prog.cellsOf 9))=some y4:=hf 4 _ rfl
   have g5:DataW.trod enc Tryz.prog W 0 (fun _=>true) true n 9 (([c0,c1,c2,c3,c4,c5].drop 5).take (Tryz.prog.cellsOf 9))=some y5:=hf 5 _ rfl
   simp only [UQ0,LP0,List.drop_zero,List.drop_succ_cons,List.take_succ_cons,List.take_zero] at g0 g1 g2 g3 g4 g5;obtain ⟨a0,e0,h0,w0⟩:=DataW.trod_int Tryz.underlying3 g0;obtain ⟨a1,e1,h1,w1⟩:=DataW.trod_int Tryz.underlying3 g1;obtain ⟨a2,e2,h2,w2⟩:=DataW.trod_int Tryz.underlying3 g2;obtain ⟨a3,e3,h3,w3⟩:=DataW.trod_int Tryz.underlying3 g3;obtain ⟨s4,e4,h4,w4⟩:=DataW.trod_string Tryz.underlying9 g4
   obtain ⟨s5,e5,h5,w5⟩:=DataW.trod_string Tryz.underlying9 g5;simp at e0 e1 e2 e3 e4 e5;subst e0 e1 e2 e3 e4 e5 hx
   exact ⟨⟨a0,a1,a2,a3,s4,s5⟩,rfl,⟨BR1 w0,BR1 w1,BR1 w2,BR1 w3,w4,w5⟩,y0.1,y1.1,y2.1,y3.1,by rw [h4,h5];rfl⟩
theorem TA0 {A:Option Addr} {n c:Nat} {d:DataW H} {p:List MemPlace} (h:DataW.Trod enc Tryz.prog W 0 (fun _=>true) true 22 (.slice A n c) d p) :
 ∃ acts:List IG0,KS W A n acts∧n≤c∧∀ a∈acts,∃ y elems rest,d = .slice elems rest∧y∈elems∧DZ1 a y:=by
 obtain ⟨fuel,hf⟩:=h
 rcases Go.Deep.open_slice Tryz.underlying22 hf with ⟨hcs,hx⟩ | ⟨a,len,cap,m,k,D,Pl,hcs,_,hl,hm,hmm,hx,hi⟩
 ·simp [Value.cells] at hcs
  obtain ⟨rfl,rfl,rfl⟩:=hcs
  exact ⟨[],⟨rfl,(fun h=>absurd h (by omega)),fun a ha=>by cases ha⟩,Nat.le_refl _,fun a ha=>by cases ha⟩
 ·simp [Value.cells] at hcs
  obtain ⟨rfl,rfl,rfl⟩:=hcs;simp only [if_true] at hmm;subst hmm;rw [LG0] at hi hx;simp only [Prod.mk.injEq] at hx
  have hv:∀ i,i<m→∃ v:IG0,(v.Ok∧DZ1 v (D i))∧∀ j u,v.arr[j]? = some u→W.cell? (a.add (i*6+j))=some u:=fun i him=>by
   obtain ⟨cs',h1,h2⟩:=hi i him;obtain ⟨v,rfl,hr1,hr2⟩:=WZ0 h2;have hr:=And.intro hr1 hr2;obtain ⟨_,hlen,hcell⟩:=World.cells?_some h1
   refine ⟨v,hr,fun j u hu=>?_⟩
   have hj:j<6:=by
    have:=(Array.getElem?_eq_some_iff.1 hu).1
    simpa [IG0.arr] using this
   rw [← Go.Deep.add_add,hcell j hj]
   simpa using hu
  obtain ⟨V,hV⟩:∃ V:Nat→IG0,∀ i,i<m→((V i).Ok∧DZ1 (V i) (D i))∧∀ j u,(V i).arr[j]? = some u→W.cell? (a.add (i*6+j))=some u :=
   ⟨fun i=>if h:i<m then (hv i h).choose else ⟨0,0,0,0,⟨#[]⟩,⟨#[]⟩⟩,fun i hi=>by have:=(hv i hi).choose_spec;simp only [dif_pos hi];exact this⟩
  refine ⟨(List.range n).map V,⟨by simp,fun hn=>?_, ?_⟩,hl, ?_⟩
  ·have c0:=(hV 0 (by omega)).2 0 _ rfl
   rw [show 0*6+0=0 from rfl] at c0
   obtain ⟨hs,hb⟩:=XG0 c0;obtain ⟨b,off,spot⟩:=a;simp only at hs hb;subst hs
   refine ⟨b,off,rfl,hb,fun i v hi j u hu=>?_⟩
   have hin:i<n:=by
    have:=(List.getElem?_eq_some_iff.1 hi).1
    simpa using this
   have hvi:V i=v:=by
    rw [List.getElem?_map,List.getElem?_range hin] at hi
    simpa using hi
   have g:=(hV i (by omega)).2
   rw [hvi] at g;have:=g j u hu;rw [addr_add] at this;simpa [Nat.add_assoc] using this
  ·intro v hv
   obtain ⟨i,hi,rfl⟩:=List.mem_map.1 hv;have hin:=List.mem_range.1 hi
   exact (hV i (by omega)).1.1
  ·intro v hv
   obtain ⟨i,hi,rfl⟩:=List.mem_map.1 hv;have hin:=List.mem_range.1 hi
   exact ⟨D i,_,_,hx.1,List.mem_map.2 ⟨i,hi,rfl⟩,(hV i (by omega)).1.2⟩
end
theorem YJ0 {H:Type} {ts:List TypeId} {ds:List (DataW H)} (h:(DataW.weightsEach Tryz.prog ts ds).all (·≤ reachBytes)=true) {j:Nat} {elems rest:List (DataW H)} (ht:ts[j]? = some 22) (hd:ds[j]? = some (.slice elems rest))
 {y:DataW H} (hy:y∈elems) {a:IG0} (ha:DZ1 a y):a.s.size≤140737488351232∧a.t.size≤140737488351232:=by
 obtain ⟨x0,x1,x2,x3,rfl⟩:=ha;have hr:reachBytes=140737488351232:=rfl
 have key:∀ (i:Nat) (s:ByteArray),[3,3,3,3,9,9][i]? = some 9 → ([x0,x1,x2,x3,.lit (.string a.s.data.toList),.lit (.string a.t.data.toList)]:List (DataW H))[i]? = some (.lit (.string s.data.toList))→s.size≤reachBytes:=fun i s h1 h2=>by
  refine of_decide_eq_true (List.all_eq_true.1 h _ (DataW.weights_mem_each ht hd _ ?_))
  simp only [DataW.weights,Tryz.underlying22,List.mem_cons,List.mem_append]
  refine Or.inr (Or.inl (Ti hy _ ?_))
  rw [DataW.weights,Tryz.underlying36]
  refine DataW.weights_mem_each (j:=i) (t:=9) h1 h2 _ ?_
  simp [DataW.weights,Tryz.underlying9]
 exact ⟨key 4 a.s rfl rfl,key 5 a.t rfl rfl⟩
end Go.Proofs.YtjihboddejaelaaGreat
