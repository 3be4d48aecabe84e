/-
  Words on memory that every contract here leans on: a block that is known whole, kept over draws, new blocks, stores and calls. No program in sight.
-/
import Derived.Below
import Derived.Laws.Rows
import Derived.Laws.OwnMore
import Derived.Deep.Draws
import Derived.Lib.Hide
import Derived.Deep.Quiet
import Derived.Deep.QuietTactic
import Derived.Deep.AppendSrc
import Derived.WalkKit
import Derived.Laws.CopyRow
import Derived.Test.YtjihboddejaelaaGreatRows
import Derived.WalkSpells
import Derived.WalkLawsBesides
import Derived.BigQuiet
import Derived.Outline
import Derived.LoopTactic
import Derived.Deep.DeepCutAuto
import Derived.Deep.AppendLies
import Derived.Laws.BitsAllLaws
import Derived.Laws.CopyOwn
import Derived.Laws.BytesArg
import Derived.Laws.MakeOwn
import Derived.Deep.RegionLaw
import Derived.IntWalk
import Derived.Laws.IdiomStrings
import Derived.Lib.Strings
import Derived.Lib.BufferWrite
import Derived.Lib.SlBuf
set_option linter.unusedVariables false
set_option linter.unusedSimpArgs false
set_option linter.defProp false
set_option maxRecDepth 100000
set_option maxHeartbeats 100000000
namespace Go.Proofs.YtjihboddejaelaaGreat
open Go.RowKit Go.BigFrame
def AC:=@if_pos
def AO:=@if_neg
def AU:=@Below.refl
def AV:=@And.intro
def AY:=@Nat.le_refl
def AZ:=@List.mem_cons_self
def A8:=@List.length_append
def BC:=@List.mem_append_right
def BF:=@List.mem_cons_of_mem
def BH:=@List.mem_singleton
def BI:=@List.mem_cons
def BL:=@List.mem_append_left
def BN:=@Nat.le_trans
def BO:=@List.mem_append
def BR:=@Nat.zero_le
def BU:=@List.append_assoc
def BZ:=@List.length_map
def CU:=@List.length_take
def CV:=@Option.some.inj
def CX:=@Below.heap_setCell
def CZ:=@List.nodup_append
def C9:=@List.getElem?_eq_some_iff
def DD:=@Nat.lt_of_lt_of_le
def DF:=@List.length_cons
def DI:=@List.mem_map
def DJ:=@List.length_drop
def DK:=@List.getElem?_eq_getElem
def DW:=@List.map_cons
def DX:=@List.take_append_drop
def DY:=@List.take_succ_cons
def DZ:=@List.take_zero
def D8:=@congrArg
def D9:=@List.map_append
def ED:=@World.size_alloc
def EE:=@List.take_of_length_le
def EF:=@List.set_cons_zero
def EH:=@List.set_cons_succ
def EI:=@List.getElem_mem
def EL:=@Lib.toList_data
def EP:=@List.setIfInBounds_toArray
def EW:=@decide_eq_true
def EY:=@decide_eq_false
def EZ:=@Nat.le_succ
def FC:=@Classical.byContradiction
def FK:=@beq_eq_false_iff_ne
def FM:=@Nat.zero_add
def FP:=@List.nodup_cons
def FQ:=@List.drop_eq_getElem_cons
def FZ:=@Tryz.underlying81
def F5:=@List.mem_of_getElem?
def F6:=@List.mem_map_of_mem
def F7:=@List.cons_append
def GH:=@List.getElem?_map
def GI:=@List.append_nil
def GU:=@List.getElem?_append_right
def GV:=@List.drop_zero
def GZ:=@List.getElem?_take
def G9:=@List.getElem?_append_left
def H5:=@List.flatMap_append
def IB:=@Tryz.underlying3
def IC:=@List.drop_succ_cons
def IK:=@List.flatMap_cons
def IP:=@info_parts
def IQ:=@bodyPost_ret
def IR:=@Int.toNat_natCast
def IV:=@Tryz.underlying39
def IW:=@Src.ofSlice
def IX:=@List.getElem?_drop
def IY:=@List.drop_of_length_le
def I8:=@heap_alloc_new
def I9:=@Nat.sub_self
def JA:=@Nat.mul_comm
def JB:=@List.length_singleton
def JC:=@List.ext_getElem?
def JD:=@List.count_append
def JI:=@leaves_cons
def JJ:=@World.ownsRow_nil
def JK:=@List.pairwise_cons
def JL:=@IntWalk.i64_in
def JQ:=@World.news_of_block
def JR:=@Nat.lt_or_ge
def JS:=@List.take_succ_eq_append_getElem
def JU:=@List.nil_append
def JV:=@List.mem_of_mem_drop
def JW:=@List.perm_iff_count
def JX:=@Array.length_toList
def KQ:=@ownsRow_setCell_below
def KT:=@List.map_nil
def LH:=@List.getD_eq_getElem?_getD
def LJ:=@Below.drew
def LK:=@Array.getElem?_eq_some_iff
def MB:=@mem_ready
def MC:=@Nat.min_eq_left
def MF:=@List.take_take
def MG:=@List.mem_flatMap
def MH:=@List.getElem?_eq_none
def MI:=@List.eq_nil_of_length_eq_zero
def MQ:=@wpQuiet_nil
def MR:=@UInt8.toNat_ofNat'
def MW:=@List.map_drop
def MX:=@List.length_set
def MZ:=@List.Perm.refl
def NC:=@Exists.intro
def NF:=@Array.getElem?_setIfInBounds
def OC:=@or_false
def OE:=@bne_iff_ne
def OG:=@beq_iff_eq
def OH:=@Tryz.ntmps35
def OI:=@Tryz.func35
def OJ:=@Ne.symm
def OM:=@Nat.not_lt_zero
def OO:=@List.mem_filter
def OQ:=@List.filter_cons
def OT:=@List.filter_append
def OU:=@Int.toNat_of_nonneg
def PQ:=@of_decide_eq_true
def PR:=@below_drewN
def PU:=@Tryz.underlying104
def PV:=@List.take_left
def PW:=@List.sum_cons
def PX:=@List.pairwise_map
def PY:=@List.not_mem_nil
def PZ:=@List.flatten_append
def QA:=@Bool.and_eq_true
def QS:=@bne_eq_false_iff_eq
def QT:=@Tryz.underlying44
def QU:=@List.take_length
def QW:=@List.takeWhile_cons
def QX:=@List.map_take
def QY:=@List.length_pos_iff
def QZ:=@List.getLastD_cons
def RF:=@List.count_cons
def RG:=@Lib.extract_data
def RH:=@Bool.false_ne_true
def SN:=@Tryz.results124
def SQ:=@Tryz.ntmps45
def SX:=@Tryz.func45
def SY:=@Nat.le_add_right
def S9:=@Nat.eq_zero_or_pos
def TA:=@Nat.add_assoc
def TC:=@List.take_append_of_le_length
def TE:=@List.length_eq_zero_iff
def TI:=@List.append_of_mem
def TJ:=@ByteArray.size_extract
def TP:=@And.left
def UY:=@wpS_region
def UZ:=@run_underlying
def VC:=@callsD_of_wpS
def VD:=@Tryz.underlying9
def VF:=@Tryz.ntmps169
def VG:=@Tryz.func169
def VH:=@Nat.le_succ_of_le
def VI:=@Nat.add_zero
def VJ:=@List.size_toArray
def VK:=@List.set_append_right
def VL:=@List.perm_append_comm
def VM:=@List.nodup_nil
def VN:=@List.getElem?_set_ne
def VO:=@List.filter_eq_nil_iff
def VP:=@List.drop_append_of_le_length
def VQ:=@List.any_eq_true
def VR:=@List.all_eq_true
def XM:=@Tryz.underlying94
def XO:=@Tryz.underlying103
def XP:=@Tryz.ntmps97
def XR:=@Tryz.ntmps123
def XT:=@Tryz.func97
def XV:=@Tryz.func123
def XW:=@Option.some.injEq
def XX:=@Nat.mod_eq_of_lt
def XY:=@List.pairwise_iff_getElem
def XZ:=@List.pairwise_append
def YA:=@List.mem_of_find?_eq_some
def YB:=@List.map_map
def YC:=@List.map_congr_left
def YE:=@List.length_reverse
def YG:=@List.getElem?_range
def YH:=@List.count_replicate
def YI:=@List.count_nil
def YJ:=@IntWalk.wrap64_in
def YK:=@Bool.or_eq_true
def YL:=@Below.setCell
def YM:=@Below.alloc
def YO:=@Array.toList_setIfInBounds
def bK:=@wpList_plain
def bM:=@size_zeroCells
def bP:=@results_none
def bQ:=@World.setCell_alloc_past
def bT:=@Tryz.ntmps98
def bU:=@Tryz.func98
def bV:=@Option.bind_some
def bW:=@Nat.lt_succ_self
def bY:=@Nat.le_of_eq
def bZ:=@Nat.add_mul
def cO:=@List.mem_range
def cZ:=@List.length_nil
def dA:=@List.length_mergeSort
def dB:=@List.length_filter_le
def dC:=@List.isEmpty_eq_false_iff
def dD:=@List.getElem?_of_mem
def dE:=@List.foldl_cons
def dF:=@List.foldl_append
def dG:=@List.flatten_cons
def dH:=@List.find?_eq_none
def dI:=@List.filter_eq_self
def dJ:=@List.eq_nil_or_concat
def dK:=@List.drop_sublist
def dL:=@List.drop_left
def dM:=@List.dropWhile_cons
def dN:=@DataW.trod_int
def dO:=@Bool.eq_false_iff
def dP:=@BitVec.toNat_ofNat
def dQ:=@Array.size_append
def lT:=@wpList_range_own
def lU:=@grownCap_le_maxLen
def lV:=@decide_eq_true_eq
def lW:=@World.cell?_of_block
def lX:=@UInt8.toNat_inj
def lY:=@Tryz.underlying52
def lZ:=@Tryz.underlying43
def mD:=@Tryz.results13
def mF:=@Tryz.results12
def mG:=@Tryz.results101
def mJ:=@Tryz.ntmps189
def mM:=@Tryz.ntmps142
def mO:=@Tryz.ntmps127
def mP:=@Tryz.ntmps119
def mQ:=@Option.map_some
def mV:=@Nat.succ_le_succ
def mW:=@List.take_set
def mX:=@List.take_add_one
def mY:=@List.reverse_append
def mZ:=@List.replicate_append_replicate
def nC:=@List.mem_take_iff_getElem
def nD:=@List.mem_of_mem_take
def nG:=@List.length_replicate
def nH:=@List.getElem?_cons_zero
def nI:=@List.getElem?_cons_succ
def nJ:=@List.drop_length
def nK:=@List.drop_append
def nM:=@List.append_inj
def nN:=@List.Sublist.refl
def nO:=@List.Pairwise.nil
def nP:=@Int.natCast_mul
def nR:=@DataW.weights_mem_each
def nS:=@Calls.quiet_of_same
def nT:=@BitVec.ofInt_natCast
def nU:=@Array.getElem?_toList
def nV:=@Array.getElem?_eq_none
def nY:=@Array.getElem?_append_left
def oC:=@Array.getD_eq_getD_getElem?
def Aa0:=@run_append_grow_src
def Aa1:=@Option.map_eq_some_iff
def Aa2:=@Nat.mul_le_mul_right
def Aa3:=@List.sublist_append_left
def Aa4:=@List.mem_drop_iff_getElem
def Aa5:=@List.getElem_of_mem
def Aa6:=@List.getElem_append
def Aa7:=@List.getElem?_set_self
def Aa8:=@List.filter_sublist
def Aa9:=@List.filter_cons_of_pos
def Ab0:=@List.filter_cons_of_neg
def Ab1:=@List.eraseIdx_eq_take_drop_succ
def Ab2:=@List.concat_eq_append
def Ab3:=@List.Perm.append_left
end Go.Proofs.YtjihboddejaelaaGreat
namespace Go.Proofs.YtjihboddejaelaaGreat
abbrev Ac:=@Go.Lib.hid
end Go.Proofs.YtjihboddejaelaaGreat
namespace Go.Proofs.YtjihboddejaelaaGreat
open Go.RowKit
def Ap{B:Nat}{w W w1:World}(h:Below B w W)(a:Below W.heap.size W w1)(b:B<=W.heap.size):Below B w w1:=h.trans (a.mono b)
def Yj{W w1:World}(a:Below W.heap.size W w1):(∀ b o,b<W.heap.size->w1.cell? ⟨b,o,none⟩=W.cell? ⟨b,o,none⟩)/\(∀ b o,b<W.heap.size->w1.frozen? ⟨b,o,none⟩=W.frozen? ⟨b,o,none⟩) :=
 ⟨λb o h=>a.cell (p:=⟨b,o,none⟩) h,λb o h=>a.frozen (p:=⟨b,o,none⟩) h⟩
def Has(w:World)(g:Nat)(t:TypeId)(cs:Array Value):Prop:=w.heap[g]? = some (.cells cs t (0,0))
section
variable {w w':World} {g:Nat} {t:TypeId} {cs:Array Value}
def Has.lt(h:Has w g t cs):g<w.heap.size:=by
 rcases JR g w.heap.size with a | a
 ·exact a
 ·exact absurd h (by unfold Has;rw[nV a];simp)
def Has.cell(h:Has w g t cs)(i:Nat):w.cell? ⟨g,i,none⟩=cs[i]? := cell_of_row w g i cs t (0,0) h
def Has.frozen(h:Has w g t cs)(i:Nat):w.frozen? ⟨g,i,none⟩=false:=by
 have a:w.heap[g]? = some (.cells cs t (0,0)):=h;simp[World.frozen?,a]
def Has.new(w:World)(t:TypeId)(cs:Array Value):Has (w.alloc (.cells cs t)) w.heap.size t cs:=by
 show(w.heap.push _)[w.heap.size]? = _;simp
def Has.alloc(h:Has w g t cs)(o:Obj):Has (w.alloc o) g t cs:=(Below.heap_alloc w o g h.lt).trans h
def Has.drew(h:Has w g t cs):Has w.drew g t cs:=h
def Has.drewN(h:Has w g t cs)(n:Nat):Has (w.drewN n) g t cs:=h
def Has.far(h:Has w g t cs){p:Addr}(a:g≠p.block)(u:Value):Has (w.setCell p u) g t cs:=(CX w p u g a).trans h
def Has.set(h:Has w g t cs)(i:Nat)(u:Value):Has (w.setCell ⟨g,i,none⟩ u) g t (cs.setIfInBounds i u):=by
 have a:w.heap[g]? = some (.cells cs t (0,0)):=h;unfold Has;simp[World.setCell,Array.getElem?_modify,a]
def Has.below{B:Nat}(h:Has w g t cs)(a:Below B w w')(b:g<B):Has w' g t cs:=(a.block g b).trans h
def Has.Ai(h:Has w g t cs)(a:Below w.heap.size w w'):Has w' g t cs:=h.below a h.lt
def Has.grown(h:Has w g t cs){row:Option Nat}(a:w.grownBy w' row)(b:some g≠row):Has w' g t cs:=(a.block g h.lt b).trans h
end
section
variable {w:World} {g g':Nat} {t:TypeId} {a b c x y z:Value} {cs:Array Value}
def Has.tK(h:Has w g t #[a,b,c]):Has (((w.setCell ⟨g,0,none⟩ x).setCell ⟨g,1,none⟩ y).setCell ⟨g,2,none⟩ z) g t #[x,y,z]:=((h.set 0 x).set 1 y).set 2 z
def Has.cells2(h:Has w g t #[a,b]):w.cell? ⟨g,0,none⟩=some a/\w.cell? ⟨g,1,none⟩=some b:=⟨h.cell 0,h.cell 1⟩
def Has.cells3(h:Has w g t #[a,b,c]):w.cell? ⟨g,0,none⟩=some a/\w.cell? ⟨g,1,none⟩=some b/\w.cell? ⟨g,2,none⟩=some c:=⟨h.cell 0,h.cell 1,h.cell 2⟩
def Has.RK1(h:Has w g t cs)(a:g≠g'):Has (((w.setCell ⟨g',0,none⟩ x).setCell ⟨g',1,none⟩ y).setCell ⟨g',2,none⟩ z) g t cs:=((h.far (p:=⟨g',0,none⟩) a x).far (p:=⟨g',1,none⟩) a y).far (p:=⟨g',2,none⟩) a z
end
def CQ(w0 w':World):Prop:=Below w0.heap.size w0 w'
def CQ.start(w:World):CQ w { w with drawn:=w.drawn+1 }:=(AU w.heap.size w).drew
def CQ.step{w0 w' a:World}(h:CQ w0 w')(b:Below w'.heap.size w' a):CQ w0 a:=Ap h b h.size
def CQ.facts{W w1:World}(h:CQ W w1):(∀ b o,b<W.heap.size->w1.cell? ⟨b,o,none⟩=W.cell? ⟨b,o,none⟩)/\(∀ b o,b<W.heap.size->w1.frozen? ⟨b,o,none⟩=W.frozen? ⟨b,o,none⟩):=Yj h
def Du {P:Program} {b:Nat} {Q:Exit->Act->World->Prop} {a:Act} {w:World} {l:List Oper} (W:World) (c:P.follows .mixedOrders=true) (d:Region.lexB .any l.toArray=true) (e:CQ W { w with drawn:=w.drawn+1 })
 (h:wpQuiet P l.toArray (CQ W) (λa'=>∀ w',CQ W w'->Q .normal a' w') l a):(Code.region b l.toArray true).wp P Q a w :=
 wp_region_quiet c d e (by simpa using h)
def CQ.bel{W w1:World}(h:CQ W w1):Below W.heap.size W w1:=h
def UN{k:IntKind}{a b:Int}(h:a=b):Ending.returned (.int k a) = .returned (.int k b):=by rw[h]
def Oi{a b:Bool}(h:a=b):Ending.returned (.bool a) = .returned (.bool b):=by rw[h]
section
variable {P:Program} (w:World)
def AB0 (f:Nat) (t q s e:TypeId) (i:TypeInfo) (z:Value) (d bytes:Nat) (y:P.underlying t=some (.slice e)) (A:P.info? e=some i) (H:i.zero=some z)
 (K:i.size=d) (Q:i.bytes=bytes) (R:z.cells.size=d) (aa:0<d)
 (v:Value) (n:Nat) (xs:List Value) (h:w.ownsRow f e d v n xs)
 (x:Value) (m:Nat) (a:List Value) (b:Src P d q x m a w)
 (F:n+m<=maxLen) (E:(n+m)*bytes<=140737488355328) (L:f<=w.heap.size) :
 ∃ v' w',(Builtin.append_ #[t,q] s #[v,x]).run P w = .ok v' w'/\w'.ownsRow f e d v' (n+m) (xs++a)/\w.grownBy w' v.ownBlock /\
   (v' = .slice none 0 0↔v = .slice none 0 0/\m=0)/\(v'.ownBlock=v.ownBlock\/v'.ownBlock=some w.heap.size):=by
 subst K;subst Q;have D:=b.newsLen
 have Z:n+m<=9223372036854775807:=by simp only[maxLen]at F;omega
 have l:(xs++a).length=(n+m)*i.size:=by rw[A8,h.1,D,bZ]
 have grown:∀ (old:Nat),old<n+m->∀ (row:Option Nat),
  (w.drew.alloc (.cells ((xs++a).toArray++Builtin.zeroCells z.cells (grownCap w (n+m) old e-(n+m))) e)).ownsRow f e i.size
    (.slice (some ⟨w.heap.size,0,none⟩) (n+m) (grownCap w (n+m) old e)) (n+m) (xs++a) /\
  w.grownBy (w.drew.alloc (.cells ((xs++a).toArray++Builtin.zeroCells z.cells (grownCap w (n+m) old e-(n+m))) e)) row:=by
  intro old ho row;have S:=grownCap_ge w (n+m) old e;have C:grownCap w (n+m) old e<=maxLen:=lU w (n+m) old e F;refine⟨⟨l,.inr ⟨w.heap.size,_,_,rfl,L,I8 w.drew _,S,C, ?_, ?_⟩⟩,⟨rfl,rfl,rfl,by simp,λk c _=>Below.heap_alloc w.drew _ k c⟩⟩
  ·rw [dQ,VJ,bM,R,l,<- bZ]
   congr 1
   omega
  ·rw [Array.toList_append,<- l];exact PV
 rcases h.2 with⟨rfl,rfl⟩ |⟨g,cap,o,rfl,T,I,ab,C,U,M⟩
 ·have V:xs=[]:=MI (by simpa using h.1);subst V;by_cases J:m=0
  ·subst J;have W:a=[]:=MI (by simpa using D);subst W;refine⟨.slice none 0 0,w, ?_,JJ w f e i.size,⟨rfl,rfl,rfl,AY _,λ_ _ _=>rfl⟩,by simp,Or.inl rfl⟩
   rcases b.kind with⟨X,c⟩ | c <;> simp[Builtin.append_,UZ y,UZ c,sizeOf,typeInfo,A,b.len,b.cells]
  ·have r:=Aa0 (P:=P) w t q s e i z y A H none 0 0 [] (by simp [Builtin.firstCells]) x m a b (by omega) (by omega) (growslice_fits (by omega) E);have p:=grown 0 (by omega) (Value.ownBlock (.slice none 0 0));exact⟨_,_,r,p.1,p.2,by simp[J],Or.inr rfl⟩
 ·by_cases B:n+m<=cap
  ·have O:n*i.size+a.length<=o.size:=by rw [D,U,<- bZ];exact Aa2 _ B
   have G:=run_storeCells_at P g (n*i.size) e a 0 o w I (by simpa using O) b.one;simp only[VI]at G
   have r:(Builtin.append_ #[t,q] s #[.slice (some ⟨g,0,none⟩) n cap,x]).run P w =
    .ok (.slice (some ⟨g,0,none⟩) (n+m) cap) (w.setRow g (o.toList.take (n*i.size)++a++o.toList.drop (n*i.size+a.length)).toArray):=by
    rcases b.kind with⟨X,c⟩ | c <;> simp[Builtin.append_,UZ y,UZ c,sizeOf,typeInfo,A,b.len,B,b.cells,Addr.add_lit,G]
   refine⟨_,_,r,⟨l,.inr ⟨g,cap,_,rfl,T,setRow_heap w g o _ e _ I,B,C, ?_, ?_⟩⟩,⟨rfl,rfl,rfl,by simp,λk _ c=>setRow_other w g k _ (λe=>c (by simp[Value.ownBlock,e]))⟩,by simp,Or.inl rfl⟩
   ·simp only [VJ,A8,CU,DJ,JX];omega
   ·rw [M,<- l];exact PV
  ·have N:∀ j u,xs[j]? = some u->w.drew.cell? ((⟨g,0,none⟩:Addr).add j)=some u:=λj u Y=>by
    have:=h.cells (g:=g) rfl j u Y;simpa using this
   have r:=Aa0 (P:=P) w t q s e i z y A H (some ⟨g,0,none⟩) n cap xs (run_firstCells_some w.drew i.size n _ n cap xs h.1 N) x m a b (by omega) (by omega) (growslice_fits (by omega) E);have p:=grown cap (by omega) (Value.ownBlock (.slice (some ⟨g,0,none⟩) n cap));exact⟨_,_,r,p.1,p.2,by simp,Or.inr rfl⟩
def Zr {o:Oper} {a:Act} {K:Act->World->Prop} {Q:Exit->Act->World->Prop} (s x:Operand) (t f:TypeId)
 (B:o.op = .call { callee:=.builtin .append,args:=#[s,x],argTypes:=#[t,f] })
 (c:Nat) (e:TypeId) (i:TypeInfo) (z:Value) (b bytes:Nat) (C:P.underlying t=some (.slice e)) (D:P.info? e=some i) (E:i.zero=some z)
 (j:i.size=b) (q:i.bytes=bytes) (r:z.cells.size=b) (u:0<b)
 (v:Value) (n:Nat) (xs:List Value) (F:a.eval s=v) (l:w.ownsRow c e b v n xs)
 (y:Value) (m:Nat) (d:List Value) (G:a.eval x=y) (p:Src P b f y m d w)
 (A:n+m<=maxLen) (g:(n+m)*bytes<=140737488355328) (k:c<=w.heap.size)
 (h:∀ v' w',w'.ownsRow c e b v' (n+m) (xs++d)->w.grownBy w' v.ownBlock->(v' = .slice none 0 0↔v = .slice none 0 0/\m=0)->(v'.ownBlock=v.ownBlock\/v'.ownBlock=some w.heap.size)->K (a.put o.dst v') w'):o.wp P a w K Q:=by
 obtain⟨v',w',H,I,J,L,M⟩:=AB0 (P:=P) w c t f o.type e i z b bytes C D E j q r u v n xs l y m d p A g k;unfold Oper.wp execOp;simp only[B,resolve,invoke,builtin,Sem.run_bind,Sem.run_pure,Result.andThen_ok,List.map_toArray,DW,KT,F,G,H];exact h v' w' I J L M
def Aq {ops:Array Oper} {g:List Oper} {o:Oper} {a:Act} {Q:Exit->Act->World->Prop} (r:o.guard=none) (s x:Operand) (t f:TypeId)
 (D:o.op = .call { callee:=.builtin .append,args:=#[s,x],argTypes:=#[t,f] })
 (c:Nat) (e:TypeId) (i:TypeInfo) (z:Value) (b bytes:Nat) (E:P.underlying t=some (.slice e)) (F:P.info? e=some i) (G:i.zero=some z)
 (k:i.size=b) (u:i.bytes=bytes) (A:z.cells.size=b) (B:0<b)
 (v:Value) (n:Nat) (xs:List Value) (H:a.eval s=v) (p:w.ownsRow c e b v n xs)
 (y:Value) (m:Nat) (d:List Value) (I:a.eval x=y) (q:Src P b f y m d w)
 (C:n+m<=maxLen) (j:(n+m)*bytes<=140737488355328) (l:c<=w.heap.size)
 (h:∀ v' w',w'.ownsRow c e b v' (n+m) (xs++d)->w.grownBy w' v.ownBlock->(v' = .slice none 0 0↔v = .slice none 0 0/\m=0)->(v'.ownBlock=v.ownBlock\/v'.ownBlock=some w.heap.size)->wpList P ops Q g (a.put o.dst v') w'):wpList P ops Q (o :: g) a w :=
 bK r λ_ J=>Zr w s x t f D c e i z b bytes E F G k u A B v n xs H p y m d I q C j l λv' w' K L M N=>J _ _ (h v' w' K L M N)
end
def grownBy_trans{w w1 w2:World}{r:Option Nat}(h:w.grownBy w1 r)(k:w1.grownBy w2 r):w.grownBy w2 r :=
 ⟨k.os.trans h.os,k.tape.trans h.tape,k.output.trans h.output,BN h.size k.size,λi a b=>(k.block i (DD a h.size) b).trans (h.block i a b)⟩
def grownBy_setCell{w:World}(p:Addr)(u:Value):w.grownBy (w.setCell p u) (some p.block) :=
 ⟨rfl,rfl,rfl,by simp[World.setCell],λk b a=>CX _ _ _ _ (λe=>a (by rw[e]))⟩
def MC0{w w1:World}{r:Option Nat}(h:Below w.heap.size w w1):w.grownBy w1 r:=⟨h.os,h.tape,h.output,h.size,λi a _=>h.block i a⟩
def grownBy_refl(w:World)(r:Option Nat):w.grownBy w r:=⟨rfl,rfl,rfl,AY _,λ_ _ _=>rfl⟩
section
variable {P:Program} (w:World)
def IO0 (l:Nat) (t k q e:TypeId) (i:TypeInfo) (z:Value) (b bytes:Nat) (v:P.underlying t=some (.slice e)) (y:P.info? e=some i) (N:i.zero=some z)
 (E:i.size=b) (J:i.bytes=bytes) (K:z.cells.size=b)
 (g n:Nat) (xs:List Value) (c:w.ownsRow l e b (.slice (some ⟨g,0,none⟩) n n) n xs)
 (x:Value) (m:Nat) (d:List Value) (a:Src P b k x m d w)
 (s:n+m<=maxLen) (D:(n+m)*bytes<=140737488355328) (F:l<=w.heap.size) :
 ∃ v' w',(Builtin.append_ #[t,k] q #[.slice (some ⟨g,0,none⟩) n n,x]).run P w = .ok v' w'/\w'.ownsRow l e b v' (n+m) (xs++d)/\Below w.heap.size w w':=by
 subst E;subst J;have A:=a.newsLen
 have S:n+m<=9223372036854775807:=by simp only[maxLen]at s;omega
 have o:(xs++d).length=(n+m)*i.size:=by rw[A8,c.1,A,bZ]
 rcases c.2 with⟨h,_⟩ |⟨g',cap,f,h,U,B,V,W,L,T⟩
 ·cases h
 ·cases h
  by_cases O:m=0
  ·subst O;have Q:d=[]:=MI (by simpa using A);subst Q;have p:=run_storeCells_at P g (n*i.size) e [] 0 f w B (by simp[L]) a.one;simp only[VI]at p
   have G:(f.toList.take (n*i.size)++[]++f.toList.drop (n*i.size+0)).toArray=f:=by
    rw[GI,VI,DX]
   simp only[cZ,G,setRow_self w g f e (0,0) B]at p
   have r:(Builtin.append_ #[t,k] q #[.slice (some ⟨g,0,none⟩) n n,x]).run P w = .ok (.slice (some ⟨g,0,none⟩) (n+0) n) w:=by
    rcases a.kind with⟨X,C⟩ | C <;> simp[Builtin.append_,UZ v,UZ C,sizeOf,typeInfo,y,a.len,a.cells,Addr.add_lit,p]
   exact⟨_,_,r,by simpa using c,AU _ _⟩
  ·have M:=grownCap_ge w (n+m) n e;have I:grownCap w (n+m) n e<=maxLen:=lU w (n+m) n e s
   have H:∀ j u,xs[j]? = some u->w.drew.cell? ((⟨g,0,none⟩:Addr).add j)=some u:=λj u R=>by
    have:=c.cells (g:=g) rfl j u R;simpa using this
   have r:=Aa0 (P:=P) w t k q e i z v y N (some ⟨g,0,none⟩) n n xs (run_firstCells_some w.drew i.size n _ n n xs c.1 H) x m d a (by omega) (by omega) (growslice_fits (by omega) D);refine⟨_,_,r,⟨o,.inr ⟨w.heap.size,_,_,rfl,F,I8 w.drew _,M,I, ?_, ?_⟩⟩,(AU _ _).drew.alloc (AY _) _⟩
   ·rw [dQ,VJ,bM,K,o,<- bZ]
    congr 1
    omega
   ·rw [Array.toList_append,<- o];exact PV
end
open Go.BigFrame
def Ic(b:UInt8):b.toNat<256:=by have:=b.toNat_lt;omega
def bD:(Value.int .u8 0).cells.size=1:=by kernel_rfl
def infoByte:(Tryz.prog.info? 5).map (λi=>(i.zero,i.size,i.bytes))=some (some (.int .u8 0),1,1):=by kernel_rfl
def BJ:Nat->Nat->List UInt8
 | _,0=>[]
 | n,k+1=>BJ (n / 256) k++[UInt8.ofNat n]
def Bj:∀ (k n:Nat),(BJ n k).length=k
 | 0,_=>rfl
 | k+1,n=>by simp[BJ,Bj k]
theorem UJ(n:Nat):BJ n 2=[UInt8.ofNat (n / 256),UInt8.ofNat n]:=rfl
def oW(n:Nat):BJ n 4=BJ (n / 65536) 2++BJ n 2:=by
 have a:n / 256 / 256=n / 65536:=by omega
 have b:n / 256 / 256 / 256=n / 65536 / 256:=by omega
 simp only[UJ,BJ,JU,BU,F7,b,a]
def LU(b:UInt8):Value:=.int .u8 (b.toNat:Nat)
def CG(l:List UInt8):List Value:=l.map LU
def Xn(a b:List UInt8):CG (a++b)=CG a++CG b:=by simp[CG]
def Oc(l:List UInt8):(CG l).length=l.length:=by simp[CG]
def GQ1{l:List UInt8}:∀ v∈CG l,v.oneCell'=true:=λv a=>by
 obtain⟨b,_,rfl⟩:=DI.1 a;rfl
def WQ(l:List UInt8)(j:Nat):(CG l)[j]? = (l[j]?).map LU:=by simp[CG]
def Iw(n:Nat):((UInt8.ofNat n).toNat:Int)=(n:Int) % 256:=by
 rw[MR];omega
def BS(w:World)(A:Option Addr)(n:Nat)(l:List UInt8):Prop :=
 l.length=n/\(0<n->∃ b off,A=some ⟨b,off,none⟩/\b<w.heap.size/\∀ i v,l[i]? = some v->w.cell? ⟨b,off+i,none⟩=some (LU v))
section
variable {w w':World} {A:Option Addr} {n:Nat} {l:List UInt8}
def BS.keep(h:BS w A n l)(a:Below w.heap.size w w'):BS w' A n l :=
 ⟨h.1,λd=>by
   obtain⟨b,off,e,c,f⟩:=h.2 d
   exact⟨b,off,e,DD c a.size,λi v g=>(a.cell (p:=⟨b,off+i,none⟩) c).trans (f i v g)⟩⟩
def BS.VS{g:Nat}{t:TypeId}(h:Has w g t (CG l).toArray):BS w (some ⟨g,0,none⟩) l.length l :=
 ⟨rfl,λ_=>⟨g,0,rfl,h.lt,λi v a=>by rw[FM,h.cell];simp[WQ,a]⟩⟩
def addr_add(b off j:Nat):(⟨b,off,none⟩:Addr).add j=⟨b,off+j,none⟩:=by unfold Addr.add;split <;> simp_all
def BS.src{c:Nat}(h:BS w A n l){i g:TypeId}{P:Program}(e:P.underlying g=some (.slice i)):Src P 1 g (.slice A n c) n (CG l) w:=by
 rcases S9 n with rfl | k
 ·have f:l=[]:=MI h.1;subst f
  cases A with
  | none=>exact Src.ofNil w e c
  | some a=>exact IW w e a 0 c [] rfl (λj u d=>by simp at d) (λu d=>by simp at d)
 ·obtain ⟨b,off,rfl,o,m⟩:=h.2 k
  exact IW w e _ n c _ (by simp[CG,h.1]) (λj u d=>by
   rw[addr_add];rw[WQ]at d;obtain⟨v,f,rfl⟩:=Aa1.1 d
   exact m j v f) GQ1
def BS.Ed{b:Nat}{e:TypeId}{v:Value}(h:w.ownsRow b e 1 v n (CG l)):∃ A c,v = .slice A n c/\n<=c/\BS w A n l:=by
 have a:l.length=n:=by have:=h.1;simp[CG]at this;exact this
 rcases h.2 with⟨rfl,j⟩ |⟨g,cap,m,rfl,o,d,f,_⟩
 ·subst j;exact⟨none,0,rfl,AY _,a,λh=>absurd h (by omega)⟩
 ·refine ⟨_,_,rfl,f,a,λ_=>⟨g,0,rfl,(LK.1 d).1,λi u k=>?_⟩⟩;have:=h.cells (g:=g) rfl i (LU u) (by rw[WQ,k];rfl);rw[addr_add]at this;exact this
end
def EM1(w:World)(l:List UInt8)(e:Ending)(w':World):Prop:=∃ A c,e = .returned (.slice A l.length c)/\BS w' A l.length l/\Below w.heap.size w w'
def BR0 {P:Program} {w:World} {ops:Array Oper} {l:List Oper} {o:Oper} {a:Act} {Q:Exit->Act->World->Prop} (C:o.guard=none) (s x:Operand) (t j:TypeId)
 (G:o.op = .call { callee:=.builtin .append,args:=#[s,x],argTypes:=#[t,j] })
 (d:Nat) (e:TypeId) (i:TypeInfo) (z:Value) (b bytes:Nat) (H:P.underlying t=some (.slice e)) (I:P.info? e=some i) (J:i.zero=some z)
 (r:i.size=b) (D:i.bytes=bytes) (E:z.cells.size=b)
 (g n:Nat) (xs:List Value) (L:a.eval s = .slice (some ⟨g,0,none⟩) n n) (v:w.ownsRow d e b (.slice (some ⟨g,0,none⟩) n n) n xs)
 (y:Value) (m:Nat) (f:List Value) (M:a.eval x=y) (B:Src P b j y m f w)
 (F:n+m<=maxLen) (q:(n+m)*bytes<=140737488355328) (u:d<=w.heap.size)
 (h:∀ A c w',w'.ownsRow d e b (.slice A (n+m) c) (n+m) (xs++f)->Below w.heap.size w w'->wpList P ops Q l (a.put o.dst (.slice A (n+m) c)) w'):wpList P ops Q (o :: l) a w:=by
 refine bK C λK N=>?_;obtain⟨v',w',O,p,R⟩:=IO0 (P:=P) w d t j o.type e i z b bytes H I J r D E g n xs v y m f B F q u
 obtain⟨A,c,rfl⟩:∃ A c,v' = .slice A (n+m) c:=by
  rcases p.2 with⟨k,S⟩ |⟨g,cap,T,k,_⟩
  ·exact⟨none,0,by rw[k,S]⟩
  ·exact⟨_,_,k⟩
 unfold Oper.wp execOp;simp only[G,resolve,invoke,builtin,Sem.run_bind,Sem.run_pure,Result.andThen_ok,List.map_toArray,DW,KT,L,M,O];exact N _ _ (h A c w' p R)
def Has.own{w:World}{g:Nat}{t:TypeId}{l:List Value}{B n:Nat}(h:Has w g t l.toArray)(b:B<=g)(a:l.length=n)(c:n<=maxLen):w.ownsRow B t 1 (.slice (some ⟨g,0,none⟩) n n) n l :=
 ⟨by omega,.inr ⟨g,n,l.toArray,rfl,b,h,AY _,c,by simp[a],by simp[<- a]⟩⟩
def bsOf(l:List UInt8):ByteArray:=⟨l.toArray⟩
def Iu(l:List UInt8):(bsOf l).data.toList=l:=by simp[bsOf]
def Df(l:List UInt8):(bsOf l).size=l.length:=by simp[bsOf,ByteArray.size]
def Ve(a b:List UInt8):bsOf a++bsOf b=bsOf (a++b):=ByteArray.mk_append_mk _ _
def WS(s:ByteArray):bsOf s.data.toList=s:=by simp[bsOf]
def PL0(l:List UInt8):strOfNums (l.map λb=>(b.toNat:Int))=bsOf l:=by
 unfold strOfNums bsOf;rw[YB]
 congr 2
 rw[show((λn:Int=>UInt8.ofNat n.toNat) ∘ λb:UInt8=>(b.toNat:Int))=id by funext b;simp];simp
def UR{w:World}{A:Option Addr}{n c:Nat}{l:List UInt8}(h:BS w A n l):(convert 39 9 (.slice A n c)).run Tryz.prog w = .ok (.string (bsOf l)) w:=by
 rcases S9 n with rfl | e
 ·have f:l=[]:=MI h.1;subst f
  cases A with
  | none=>exact run_convert_bytes_nil w _ _ IV Tryz.underlying5 0 c _ VD
  | some a =>
    have d:(loadCells a 0).run Tryz.prog w = .ok (([]:List Int).map (Value.int .u8)).toArray w:=by
     have:=run_loadCells_list (P:=Tryz.prog) w a [] (λj v g=>by simp at g);simpa using this
    rw[run_convert_bytes_string w _ _ _ _ 0 c IV Tryz.underlying5 VD,run_bytesToString w a 0 c [] d];rfl
 ·obtain ⟨b,off,rfl,o,k⟩:=h.2 e
  have:=run_convert_bytes_arg (P:=Tryz.prog) w 39 5 IV Tryz.underlying5 b off n c (l.map λb=>(b.toNat:Int)) (by simpa using h.1) (λi m=>by
   have d:i<l.length:=by rw[h.1];exact m
   rw[k i l[i] (by simp[d])]
   simp[LU,d]) _ VD
  rw[PL0]at this;exact this
def DC(l:List UInt8):Nat:=l.foldl (λn b=>256*n+b.toNat) 0
def iL(l:List UInt8)(b:UInt8):DC (l++[b])=256*DC l+b.toNat:=by simp[DC]
def RZ:∀ (k:Nat) (l:List UInt8),l.length=k->DC l<256 ^ k
 | 0,l,h=>by rw[MI h];decide
 | k+1,l,h=>by
   rcases dJ l with rfl |⟨m,b,rfl⟩
   ·simp at h
   ·have a:m.length=k:=by simpa using h
    have:=RZ k m a;have c:=Ic b;rw[Ab2,iL,Nat.pow_succ];omega
def PK1(a b c:Int)(w:World):Calls Tryz.prog 63 #[.int .i64 a,.int .i64 b,.int .i64 c] w λe w'=>e = .returned (.bool (decide (b<=a) && decide (a<=c)))/\w=w':=by
 by_cases h:b<=a
 ·by_cases d:a<=c
  ·go_enter Tryz.func63,Tryz.ntmps63
   go_wp2
   go_ret;exact⟨Oi (by simp[h,d]),rfl⟩
  ·go_enter Tryz.func63,Tryz.ntmps63
   go_wp2
   go_ret;exact⟨Oi (by simp[h,d];try omega),rfl⟩
 ·go_enter Tryz.func63,Tryz.ntmps63
  go_wp2
  go_ret;exact⟨Oi (by simp[h];try omega),rfl⟩
end Go.Proofs.YtjihboddejaelaaGreat
namespace Go.Proofs.YtjihboddejaelaaGreat
open Go.RowKit
structure Ch where
 file:Nat
 at_:Nat
 text:ByteArray
 cut:Bool
def Ef(l:List UInt8)(n:Nat):List UInt8:=l++List.replicate (n-l.length) 0
def GR(l:List UInt8)(a:Nat)(t:List UInt8):List UInt8:=(Ef l (a+t.length)).take a++t++(Ef l (a+t.length)).drop (a+t.length)
def Ch.done(c:Ch)(l:List UInt8):List UInt8:=if c.cut then(Ef l c.at_).take c.at_ else GR l c.at_ c.text.data.toList
def Rk(l:List UInt8)(n:Nat):(Ef l n).length=max l.length n:=by
 unfold Ef;rw[A8,nG];omega
def zD{l:List UInt8}{n:Nat}(h:n<=l.length):Ef l n=l:=by
 unfold Ef;rw[show n-l.length=0 by omega];simp
def DP0{l:List UInt8}{n m:Nat}(h:l.length<=m)(a:m<n):Ef l m++[0]=Ef l (m+1):=by
 unfold Ef;rw[BU,show m+1-l.length=(m-l.length)+1 by omega,List.replicate_succ']
def Lh(l:List UInt8)(a:Nat)(t:List UInt8):(GR l a t).length=max l.length (a+t.length):=by
 unfold GR;rw[A8,A8,CU,DJ,Rk];omega
def KU1(c:Ch)(l:List UInt8):(c.done l).length<=max l.length (c.at_+c.text.size):=by
 unfold Ch.done
 split
 ·rw[CU,Rk];omega
 ·rw[Lh,JX];exact AY _
def Ch.fits(c:Ch):Prop:=c.file<2/\c.at_<=67108864/\c.at_+c.text.size<=67108864/\(c.cut=true->c.text.size=0)
def jU{c:Ch}{l:List UInt8}(h:c.fits)(a:l.length<=67108864):(c.done l).length<=67108864:=by
 have:=KU1 c l;have:=h.2.2.1;omega
def Rt:List Ch->Nat->List UInt8->List UInt8
 | [],_,l=>l
 | c :: ws,f,l=>Rt ws f (if c.file=f then c.done l else l)
def DW0:∀ (ws a:List Ch) (f:Nat) (l:List UInt8),Rt (ws++a) f l=Rt a f (Rt ws f l)
 | [],a,f,l=>rfl
 | c :: ws,a,f,l=>by rw[F7,Rt,DW0 ws a];rfl
def yX(ws:List Ch)(c:Ch)(f:Nat)(l:List UInt8):Rt (ws++[c]) f l=if c.file=f then c.done (Rt ws f l)else Rt ws f l:=by
 rw[DW0];rfl
def xR:∀ (ws:List Ch) (f:Nat) (l:List UInt8),(∀ c∈ws,c.fits)->l.length<=67108864->(Rt ws f l).length<=67108864
 | [],f,l,_,hl=>hl
 | c :: ws,f,l,h,hl=>by
   rw[Rt];refine xR ws f _ (λd a=>h d (BF _ a)) ?_
   split
   ·exact jU (h c (AZ ..)) hl
   ·exact hl
def Vy:∀ (ws:List Ch) (f k:Nat) (l:List UInt8),f≠k->Rt (ws.filter (λc=>decide (c.file≠k))) f l=Rt ws f l
 | [],f,k,l,_=>rfl
 | c :: ws,f,k,l,h=>by
   by_cases a:c.file=k
   ·rw[Ab0 (by simp[a]),Vy ws f k l h,Rt,AO (by rw[a];exact λe=>h e.symm)]
   ·rw[Aa9 (by simp[a]),Rt,Rt,Vy ws f k _ h]
def Nv:∀ (ws:List Ch) (f:Nat) (l:List UInt8),Rt (ws.filter (λc=>decide (c.file≠f))) f l=l
 | [],f,l=>rfl
 | c :: ws,f,l=>by
   by_cases a:c.file=f
   ·rw[Ab0 (by simp[a]),Nv ws f l]
   ·rw[Aa9 (by simp[a]),Rt,AO a,Nv ws f l]
structure Dk where
 l0:List UInt8
 l1:List UInt8
 waits:List Ch
 fails:Int
 down:Bool
 count:Nat
def Dk.lasts(D:Dk)(f:Nat):List UInt8:=if f=0 then D.l0 else D.l1
def Dk.seen(D:Dk)(f:Nat):List UInt8:=Rt D.waits f (D.lasts f)
structure Dk.ok (D:Dk):Prop where
 l0:D.l0.length<=67108864
 l1:D.l1.length<=67108864
 waits:∀ c∈D.waits,c.fits
 fails : -1<=D.fails/\D.fails<=9223372036854775807
def Dk.ok.lasts{D:Dk}(h:D.ok)(f:Nat):(D.lasts f).length<=67108864:=by
 unfold Dk.lasts;split
 ·exact h.l0
 ·exact h.l1
def Dk.ok.seen{D:Dk}(h:D.ok)(f:Nat):(D.seen f).length<=67108864:=xR _ _ _ h.waits (h.lasts f)
def Dk.stops(D:Dk):Prop:=D.down=true\/D.fails=0
instance (D:Dk):Decidable D.stops:=by unfold Dk.stops;infer_instance
def Dk.turn(D:Dk):Dk:=if D.stops then{ D with down:=true }else{ D with fails:=if 0<D.fails then D.fails-1 else D.fails,count:=D.count+1 }
def Dk.Dw(D:Dk):Int:=if D.stops then 2 else 0
def Dk.ZC{D:Dk}(h:D.ok):D.turn.ok:=by
 obtain⟨a,b,c,d,e⟩:=h;unfold Dk.turn
 split
 ·exact⟨a,b,c,d,e⟩
 ·refine ⟨a,b,c, ?_⟩;show -1<=(if 0<D.fails then D.fails-1 else D.fails)/\(if 0<D.fails then D.fails-1 else D.fails)<=9223372036854775807
  split <;> omega
def Dk.change(D:Dk)(c:Ch):Dk:=if D.stops then D.turn else{ D.turn with waits:=D.waits++[c] }
def Dk.aV{D:Dk}{c:Ch}(h:D.ok)(e:c.fits):(D.change c).ok:=by
 unfold Dk.change
 split
 ·exact Dk.ZC h
 ·have b:=Dk.ZC h
  exact⟨b.l0,b.l1,λd a=>by
   rcases BO.1 a with a | a
   ·exact h.waits d a
   ·rw[BH.1 a];exact e,b.fails⟩
def Jr(f a n:Int):Prop:=0<=f/\f<2/\0<=a/\0<=n/\a<=67108864/\n<=67108864-a
instance (f a n:Int):Decidable (Jr f a n):=by unfold Jr;infer_instance
def Dk.write(D:Dk)(f a:Int)(s:ByteArray):Dk:=if Jr f a s.size then D.change ⟨f.toNat,a.toNat,s,false⟩else D
def Dk.Ji(D:Dk)(f a:Int)(s:ByteArray):Int:=if Jr f a s.size then D.Dw else 1
def Dk.Fp(D:Dk)(f a:Int):Dk:=if Jr f a 0 then D.change ⟨f.toNat,a.toNat,⟨#[]⟩,true⟩else D
def Dk.IM(D:Dk)(f a:Int):Int:=if Jr f a 0 then D.Dw else 1
def Dk.Tc(D:Dk)(f:Nat):Dk:={ D.turn with l0:=if f=0 then D.seen 0 else D.l0,l1:=if f=0 then D.l1 else D.seen 1,waits:=D.waits.filter (λc=>decide (c.file≠f)) }
def Dk.sync(D:Dk)(f:Int):Dk:=if 0<=f/\f<2 then(if D.stops then D.turn else D.Tc f.toNat)else D
def Dk.Pq(D:Dk)(f:Int):Int:=if 0<=f/\f<2 then D.Dw else 1
def Dk.Fa(D:Dk)(f a n:Int):ByteArray:=if Jr f a n/\D.down=false/\a+n<=(D.seen f.toNat).length then bsOf (((D.seen f.toNat).drop a.toNat).take n.toNat)else⟨#[]⟩
def Dk.Dy(D:Dk)(f a n:Int):Int:=if Jr f a n then(if D.down=true then 2 else if a+n<=(D.seen f.toNat).length then 0 else 3)else 1
def Dk.Zo(D:Dk)(f:Int):Int:=if 0<=f/\f<2/\D.down=false then(D.seen f.toNat).length else 0
def Dk.Vl(D:Dk)(f:Int):Int:=if 0<=f/\f<2 then(if D.down=true then 2 else 0)else 1
def PI(keep:List Int)(i:Nat):Int:=if keep.length=0 then 0 else keep.getD (i % keep.length) 0
def Ch.half(c:Ch):Ch:=if c.cut then c else{ c with text:=c.text.extract 0 (c.text.size / 2) }
def Ko(c:Ch)(how:Int)(l:List UInt8)(f:Nat):List UInt8:=if c.file=f then(if how=1 then c.done l else if how=2 then c.half.done l else l)else l
def Gm (keep:List Int):List Ch->Nat->Nat->List UInt8->List UInt8
 | [],_,_,l=>l
 | c :: ws,i,f,l=>Gm keep ws (i+1) f (Ko c (PI keep i) l f)
def Dk.Ey(D:Dk)(keep:List Int):Dk:=⟨Gm keep D.waits 0 0 D.l0,Gm keep D.waits 0 1 D.l1,[], -1,false,D.count⟩
def Qc (keep:List Int):∀ (ws a:List Ch) (i f:Nat) (l:List UInt8),Gm keep (ws++a) i f l=Gm keep a (i+ws.length) f (Gm keep ws i f l)
 | [],a,i,f,l=>by simp[Gm]
 | c :: ws,a,i,f,l=>by
   rw[F7,Gm,Qc keep ws a,Gm,DF]
   congr 1;omega
def DF1{c:Ch}(h:c.fits):c.half.fits:=by
 unfold Ch.half
 split
 ·exact h
 ·rename_i a;refine⟨h.1,h.2.1, ?_,λb=>absurd b a⟩;have:=h.2.2.1;show c.at_+(c.text.extract 0 (c.text.size / 2)).size<=_;rw[TJ];omega
def UF0{c:Ch}{how:Int}{l:List UInt8}{f:Nat}(h:c.fits)(a:l.length<=67108864):(Ko c how l f).length<=67108864:=by
 unfold Ko
 split
 ·split
  ·exact jU h a
  ·split
   ·exact jU (DF1 h) a
   ·exact a
 ·exact a
def Zp (keep:List Int):∀ (ws:List Ch) (i f:Nat) (l:List UInt8),(∀ c∈ws,c.fits)->l.length<=67108864->(Gm keep ws i f l).length<=67108864
 | [],_,_,_,_,hl=>hl
 | c :: ws,i,f,l,h,hl=>Zp keep ws _ f _ (λd a=>h d (BF _ a)) (UF0 (h c (AZ ..)) hl)
def Dk.LD1{D:Dk}(h:D.ok)(keep:List Int):(D.Ey keep).ok :=
 ⟨Zp _ _ _ _ _ h.waits h.l0,Zp _ _ _ _ _ h.waits h.l1,(λc a=>by cases a),by show -1<=(-1:Int)/\(-1:Int)<=9223372036854775807;omega⟩
def Dk.Qs{D:Dk}(h:D.ok)(f:Int):(D.sync f).ok:=by
 unfold Dk.sync
 split
 ·split
  ·exact Dk.ZC h
  ·have a:=Dk.ZC h;refine⟨?_, ?_,λc b=>h.waits c (OO.1 b).1,a.fails⟩
   ·show (if f.toNat=0 then D.seen 0 else D.l0).length<=_
    split
    ·exact h.seen 0
    ·exact h.l0
   ·show (if f.toNat=0 then D.l1 else D.seen 1).length<=_
    split
    ·exact h.l1
    ·exact h.seen 1
 ·exact h
def Dk.XL{D:Dk}(h:D.ok)(f a:Int)(s:ByteArray):(D.write f a s).ok:=by
 unfold Dk.write
 split
 ·rename_i b;obtain⟨c,d,e,g,i,j⟩:=b;exact Dk.aV h ⟨by show f.toNat<2;omega,by show a.toNat<=_;omega,by show a.toNat+s.size<=_;omega,λh=>by cases h⟩
 ·exact h
def Dk.Y5{D:Dk}(h:D.ok)(f a:Int):(D.Fp f a).ok:=by
 unfold Dk.Fp
 split
 ·rename_i b;obtain⟨c,d,e,g,i,j⟩:=b;exact Dk.aV h ⟨by show f.toNat<2;omega,by show a.toNat<=_;omega,by show a.toNat+0<=_;omega,λ_=>rfl⟩
 ·exact h
def Dk.yG(D:Dk)(f k:Nat)(a:f<2)(b:k<2):(D.Tc f).seen k=D.seen k:=by
 unfold Dk.Tc Dk.seen Dk.lasts;simp only;by_cases h:k=f
 ·subst h;rw[Nv]
  rcases(show k=0\/k=1 by omega)with rfl | rfl <;> rfl
 ·rw [Vy _ _ _ _ h]
  rcases(show k=0/\f=1\/k=1/\f=0 by omega)with⟨rfl,rfl⟩ |⟨rfl,rfl⟩ <;> rfl
def Dk.bC(D:Dk)(k:Nat):D.turn.seen k=D.seen k:=by
 unfold Dk.turn;split <;> rfl
def Dk.Rj(D:Dk)(c:Ch)(h:¬ D.stops)(k:Nat):(D.change c).seen k=if c.file=k then c.done (D.seen k)else D.seen k:=by
 unfold Dk.change;rw[AO h];show Rt (D.waits++[c]) k (D.turn.lasts k)=_;rw[yX]
 have:D.turn.lasts k=D.lasts k:=by unfold Dk.turn;split <;> rfl
 rw[this];rfl
structure Row where
 v:Value
 e:TypeId
 size:Nat
 n:Nat
 xs:List Value
def Row.ok(w:World)(r:Row):Prop:=w.ownsRow 0 r.e r.size r.v r.n r.xs
def II(g:Nat)(rs:List Row):List (Option Nat):=some g :: rs.map (λr=>r.v.ownBlock)
def Apart(b:List (Option Nat)):Prop:=b.Pairwise (λx y=>∀ k,x=some k->y≠some k)
structure Ob (w:World) (g:Nat) (t:TypeId) (cs:Array Value) (rs:List Row):Prop where
 has:Has w g t cs
 rows:∀ r∈rs,r.ok w
 apart:Apart (II g rs)
structure Turn (b b':List (Option Nat)) (w w':World):Prop where
 os:w'.os=w.os
 tape:w'.tape=w.tape
 output:w'.output=w.output
 size:w.heap.size<=w'.heap.size
 block:∀ k,k<w.heap.size->some k∉b->w'.heap[k]? = w.heap[k]?
 new:∀ k,some k∈b'->some k∈b\/w.heap.size<=k
def QO(b c:List (Option Nat)):Prop:=∀ k,some k∈b->some k∉c
section
variable {w w' w1 w2:World} {b b1 b2 c:List (Option Nat)} {g:Nat} {t:TypeId} {cs:Array Value} {rs:List Row}
def Turn.refl(b:List (Option Nat))(w:World):Turn b b w w:=⟨rfl,rfl,rfl,AY _,λ_ _ _=>rfl,λ_ h=>.inl h⟩
def Turn.trans(h:Turn b b1 w w1)(k:Turn b1 b2 w1 w2):Turn b b2 w w2:=by
 refine⟨k.os.trans h.os,k.tape.trans h.tape,k.output.trans h.output,BN h.size k.size,λi c d=>?_,λi c=>?_⟩
 ·refine (k.block i (DD c h.size) (λe=>?_)).trans (h.block i c d)
  rcases h.new i e with a | a
  ·exact d a
  ·omega
 ·rcases k.new i c with a | a
  ·exact h.new i a
  ·exact .inr (BN h.size a)
def Turn.below(b:List (Option Nat))(a:Below w.heap.size w w'):Turn b b w w':=⟨a.os,a.tape,a.output,a.size,λk c _=>a.block k c,λ_ h=>.inl h⟩
def Turn.bel{B:Nat}{a:World}(h:Turn b b1 w w1)(d:Below B a w)(e:∀ k,some k∈b->B<=k)(c:B<=w.heap.size):Below B a w1 :=
 d.trans ⟨h.os,h.tape,h.output,h.size,λk f=>h.block k (DD f c) (λg=>by have:=e k g;omega)⟩
def Turn.low{B:Nat}(h:Turn b b1 w w1)(c:∀ k,some k∈b->B<=k)(e:B<=w.heap.size):∀ k,some k∈b1->B<=k:=λk d=>by
 rcases h.new k d with a | a
 ·exact c k a
 ·omega
def Ob.lt(h:Ob w g t cs rs){k:Nat}(a:some k∈II g rs):k<w.heap.size:=by
 rcases BI.1 a with e | a
 ·cases e;exact h.has.lt
 ·obtain ⟨r,b,e⟩:=DI.1 a;exact((h.rows r b).lt k e).2
def lN{e:TypeId}{a n:Nat}{v:Value}{xs:List Value}(h:w.ownsRow 0 e a v n xs)(f:∀ k,v.ownBlock=some k->w'.heap[k]? = w.heap[k]?):w'.ownsRow 0 e a v n xs:=by
 refine⟨h.1, ?_⟩
 rcases h.2 with h |⟨g,cap,c,b,d,i,r⟩
 ·exact .inl h
 ·exact .inr ⟨g,cap,c,b,d,(f g (by rw[b];rfl)).trans i,r⟩
def Ob.kept(h:Ob w g t cs rs)(a:∀ k,some k∈II g rs->w'.heap[k]? = w.heap[k]?):Ob w' g t cs rs :=
 ⟨(a g (AZ ..)).trans h.has,λr b=>lN (h.rows r b) λk c=>a k (BF _ (DI.2 ⟨r,b,c⟩)),h.apart⟩
def Ob.far(h:Ob w g t cs rs)(c:Turn b b1 w w1)(d:QO b (II g rs)):Ob w1 g t cs rs:=h.kept λk a=>c.block k (h.lt a) (λe=>d k e a)
def Ob.below(h:Ob w g t cs rs)(a:Below w.heap.size w w'):Ob w' g t cs rs:=h.kept λk b=>a.block k (h.lt b)
def lM(h:Apart (II g rs)){r:Row}(a:r∈rs):r.v.ownBlock≠some g:=by
 obtain⟨b,_⟩:=JK.1 h;exact b r.v.ownBlock (DI.2 ⟨r,a,rfl⟩) g rfl
def Ob.set(h:Ob w g t cs rs)(i:Nat)(u:Value):Ob (w.setCell ⟨g,i,none⟩ u) g t (cs.setIfInBounds i u) rs :=
 ⟨h.has.set i u,λr a=>lN (h.rows r a) λk b=>CX _ _ _ _ (λe=>lM h.apart a (by rw[b];exact D8 some e)),h.apart⟩
def Turn.set(g:Nat)(rs:List Row)(i:Nat)(u:Value)(w:World):Turn (II g rs) (II g rs) w (w.setCell ⟨g,i,none⟩ u) :=
 ⟨rfl,rfl,rfl,by simp[World.setCell],λk _ a=>CX _ _ _ _ (λe=>a (by rw[show k=g from e];exact AZ ..)),λ_ h=>.inl h⟩
def Ob.row0 (h:Ob w g t cs rs) (i:Nat) {r r':Row} (J:rs[i]? = some r) (K:w.grownBy w' r.v.ownBlock) (Q:r'.ok w') (B:∀ k,r'.v.ownBlock=some k->r.v.ownBlock=some k\/some k∉II g rs) :
 Ob w' g t cs (rs.set i r'):=by
 have P:r∈rs:=F5 J;obtain⟨L,E⟩:=C9.1 J;have o:=h.apart;have F:∀ x,x∈rs->∀ k,x.v.ownBlock=some k->some k∈II g rs:=λx l k a=>BF _ (DI.2 ⟨x,l,a⟩)
 have n:∀ j x,(rs.set i r')[j]? = some x->(j=i/\x=r')\/(j≠i/\rs[j]? = some x):=λj x b=>by
  rw[List.getElem?_set]at b
  split at b
  ·rename_i e;subst e
   first
    |(cases b;exact .inl ⟨rfl,rfl⟩)
    | (split at b
       ·cases b;exact .inl ⟨rfl,rfl⟩
       ·cases b)
  ·rename_i e;exact .inr ⟨λC=>e C.symm,b⟩
 have A:∀ j x,rs[j]? = some x->j≠i->∀ k,x.v.ownBlock=some k->r.v.ownBlock≠some k:=λj x b G k a e=>by
  have f:=(JK.1 o).2;rw[PX]at f;obtain⟨p,c⟩:=C9.1 b
  rcases JR j i with q | q
  ·have:=XY.1 f j i p L q;rw[c,E]at this;exact this k a e
  ·have:=XY.1 f i j L p (by omega);rw[c,E]at this;exact this k e a
 have H:r.v.ownBlock≠some g:=lM o P;refine⟨(K.block g h.has.lt (λe=>H e.symm)).trans h.has,λx l=>?_, ?_⟩
 ·obtain ⟨j,b⟩:=dD l
  rcases n j x b with⟨_,rfl⟩ |⟨G,c⟩
  ·exact Q
  ·have I:x∈rs:=F5 c;exact lN (h.rows x I) λk a=>K.block k ((h.rows x I).lt k a).2 (λe=>A j x c G k a e.symm)
 ·refine JK.2 ⟨λy U k a=>?_, ?_⟩
  ·cases a
   obtain⟨x,l,rfl⟩:=DI.1 U;obtain⟨j,b⟩:=dD l
   rcases n j x b with⟨_,rfl⟩ |⟨_,c⟩
   ·intro e
    rcases B _ e with m | m
    ·exact H m
    ·exact m (AZ ..)
   ·exact lM o (F5 c)
  ·rw [PX,XY];intro s u q m R k a e;have V:=n s _ (DK q);have M:=n u _ (DK m);generalize (rs.set i r')[s]=N at *;generalize (rs.set i r')[u]=O at *
   rcases V with⟨X,rfl⟩ |⟨W,D⟩
   ·rcases M with ⟨C,rfl⟩ | ⟨n2,z⟩
    ·omega
    ·rcases B k a with d | d
     ·exact A u O z n2 k e d
     ·exact d (F O (F5 z) k e)
   ·rcases M with ⟨C,rfl⟩ | ⟨n2,z⟩
    ·rcases B k e with d | d
     ·exact A s N D W k a d
     ·exact d (F N (F5 D) k a)
    ·have f:=(JK.1 o).2;rw[PX]at f;obtain⟨p,c⟩:=C9.1 D;obtain⟨S,T⟩:=C9.1 z;have:=XY.1 f s u p S R;rw[c,T]at this;exact this k a e
def qZ(rs:List Row)(i:Nat)(r':Row){k:Nat}(a:some k∈II g (rs.set i r')):some k∈II g rs\/r'.v.ownBlock=some k:=by
 rcases BI.1 a with e | a
 ·exact .inl (e ▸ AZ ..)
 ·obtain ⟨x,b,e⟩:=DI.1 a
  rcases List.mem_or_eq_of_mem_set b with h | h
  ·exact .inl (BF _ (DI.2 ⟨x,h,e⟩))
  ·exact .inr (h ▸ e)
def Ob.row (h:Ob w g t cs rs) (i:Nat) {r r':Row} (l:rs[i]? = some r) (b:w.grownBy w' r.v.ownBlock) (m:r'.ok w') (n:r'.v.ownBlock=r.v.ownBlock\/∀ k,r'.v.ownBlock=some k->w.heap.size<=k) :
 Ob w' g t cs (rs.set i r')/\Turn (II g rs) (II g (rs.set i r')) w w':=by
 have f:r∈rs:=F5 l
 have j:∀ k,r'.v.ownBlock=some k->r.v.ownBlock=some k\/w.heap.size<=k:=λk a=>by
  rcases n with e | e
  ·exact .inl (e ▸ a)
  ·exact .inr (e k a)
 refine⟨h.row0 i l b m λk a=>(j k a).imp id λd c=>by have:=h.lt c;omega,⟨b.os,b.tape,b.output,b.size,λk a o=>b.block k a (λe=>o ?_),λk a=>?_⟩⟩
 ·exact BF _ (DI.2 ⟨r,f,e.symm⟩)
 ·rcases qZ rs i r' a with d | d
  ·exact .inl d
  ·rcases j k d with c | c
   ·exact .inl (BF _ (DI.2 ⟨r,f,c⟩))
   ·exact .inr c
def Ob.swap(h:Ob w g t cs rs)(i:Nat){r r':Row}(b:rs[i]? = some r)(a:r'.ok w)(c:∀ k,r'.v.ownBlock=some k->some k∉II g rs):Ob w g t cs (rs.set i r') :=
 h.row0 i b (grownBy_refl _ _) a λk d=>.inr (c k d)
def Turn.swap{w0:World}(a:Turn b (II g rs) w0 w)(i:Nat){r':Row}(d:∀ k,r'.v.ownBlock=some k->w0.heap.size<=k):Turn b (II g (rs.set i r')) w0 w :=
 ⟨a.os,a.tape,a.output,a.size,a.block,λk e=>by
   rcases qZ rs i r' e with c | c
   ·exact a.new k c
   ·exact .inr (d k c)⟩
def vO{w:World}{b:Nat}{e:TypeId}{a:Nat}{v:Value}{n:Nat}{xs:List Value}(h:w.ownsRow b e a v n xs):w.ownsRow 0 e a v n xs:=by
 refine⟨h.1, ?_⟩
 rcases h.2 with h |⟨g,cap,c,d,f,r⟩
 ·exact .inl h
 ·exact .inr ⟨g,cap,c,d,BR _,r⟩
def EB0{r:Option Nat}(h:w.grownBy w' none):w.grownBy w' r:=⟨h.os,h.tape,h.output,h.size,λk a _=>h.block k a (by simp)⟩
end
open Go.BigFrame

structure GK (w:World) (v:Value) (w':World) (v':Value):Prop where
 grown:w.grownBy w' v.ownBlock
 at_:v'.ownBlock=v.ownBlock\/∀ k,v'.ownBlock=some k->w.heap.size<=k
def GK.refl(w:World)(v:Value):GK w v w v:=⟨grownBy_refl _ _,.inl rfl⟩
def GK.trans{w w1 w2:World}{v c d:Value}(h:GK w v w1 c)(k:GK w1 c w2 d):GK w v w2 d:=by
 refine⟨⟨k.grown.os.trans h.grown.os,k.grown.tape.trans h.grown.tape,k.grown.output.trans h.grown.output,BN h.grown.size k.grown.size,λi b f=>?_⟩, ?_⟩
 ·refine (k.grown.block i (DD b h.grown.size) (λe=>?_)).trans (h.grown.block i b f)
  rcases h.at_ with a | a
  ·exact f (e.trans a)
  ·have:=a i e.symm;omega
 ·rcases k.at_ with e | e
  ·rcases h.at_ with a | a
   ·exact .inl (e.trans a)
   ·exact .inr (λi b=>a i (e ▸ b))
  ·exact .inr (λi b=>BN h.grown.size (e i b))
def GK.below{w w1 w2:World}{v a:Value}(h:GK w v w1 a)(b:Below w1.heap.size w1 w2):GK w v w2 a :=
 h.trans ⟨MC0 b,.inl rfl⟩
def GK.alloc{w w1:World}{v a:Value}(h:GK w v w1 a)(o:Obj):GK w v (w1.alloc o) a:=h.below ((AU _ _).alloc (AY _) _)
def GK.app{w w1 w2:World}{v a b:Value}(h:GK w v w1 a)(f:w1.grownBy w2 a.ownBlock)(d:b.ownBlock=a.ownBlock\/b.ownBlock=some w1.heap.size):GK w v w2 b :=
 h.trans ⟨f,d.imp id λe k c=>by rw[e]at c;cases c;exact AY _⟩
def GK.start{w w0:World}{v:Value}(a:Below w0.heap.size w0 w){w':World}{v':Value}(h:GK w v w' v'):GK w0 v w' v':=(GK.refl w0 v).below a |>.trans h
def zW(w:World)(e:TypeId)(a:Nat)(v:Value)(n:Nat)(xs:List Value)(b:Ending)(w':World):Prop :=
 ∃ v',b = .returned v'/\w'.ownsRow 0 e a v' n xs/\GK w v w' v'
def pI(l:List UInt8):CG l++[Value.int .u8 0]=CG (l++[0]):=by rw[Xn];rfl
def OP0 {P:Program} {w:World} (h o p d:TypeId) (v:P.underlying h=some (.slice d)) (u:(P.info? d).map (·.size)=some 1)
 {e:TypeId} {A:Option Addr} {n c:Nat} {l:List UInt8} (j:w.ownsRow 0 e 1 (.slice A n c) n (CG l)) (q:Option Addr) (f m off:Nat) (x:ByteArray)
 (z:0<x.size->q=A.map (·.add (off*1))) (B:x.size<=f) (M:off+x.size<=n) :
 ∃ w',(Builtin.copy_ #[h,o] p #[.slice q f m,.string x]).run P w = .ok (goInt x.size) w'/\w'.ownsRow 0 e 1 (.slice A n c) n (CG (l.take off++x.data.toList++l.drop (off+x.size)))/\w.grownBy w' (Value.ownBlock (.slice A n c)):=by
 have O:l.length=n:=by have:=j.1;rw[Oc]at this;omega
 rcases S9 x.size with b | b
 ·have r:=Lib.run_copy_empty_string (P:=P) w h o p d q f m x v (by rw [u];rfl) b;have i:x.data.toList=[]:=MI (by simpa using b);refine⟨w,by rw[b];exact r, ?_,grownBy_refl _ _⟩;rw[i,b,GI,VI,DX];exact j
 ·rcases j.2 with ⟨Q,R⟩ | ⟨g,cap,a,H,C,y,D,E,F,G⟩
  ·omega
  ·cases H
   have s:=z b
   have I:(⟨g,0,none⟩:Addr).add (off*1)=⟨g,off,none⟩:=by rw[addr_add];simp
   simp only[mQ,I]at s;subst s
   have N:a.size=c:=by rw[F];omega
   have r:=Lib.run_copy_row_string (P:=P) w h o p d g off f m x a e v u y B (by omega);refine⟨_,r,⟨?_,.inr ⟨g,c,_,rfl,C,setRow_heap w g a _ e (0,0) y,D,E, ?_, ?_⟩⟩,⟨rfl,rfl,rfl,by simp[World.setRow],λk _ J=>setRow_other w g k _ (λe=>J (by rw[e];rfl))⟩⟩
   ·rw[Oc];simp;omega
   ·rw [VJ];simp only[A8,CU,DJ,JX,show(Lib.byteCells x.data.toList)=CG x.data.toList from rfl,Oc,show x.data.size=x.size from rfl];omega
   ·have t:a.toList.take n=CG l:=by simpa using G
    have K:a.toList.take off=CG (l.take off):=by
     have:(a.toList.take n).take off=a.toList.take off:=by rw[MF,MC (by omega)]
     rw[<- this,t];simp[CG,QX]
    have L:(a.toList.drop (off+x.size)).take (n-(off+x.size))=CG (l.drop (off+x.size)):=by
     rw[<- List.drop_take,t];simp[CG,MW]
    have i:x.data.toList.length=x.size:=by simp
    rw[Nat.mul_one];show(a.toList.take off++CG x.data.toList++a.toList.drop (off+x.size)).take n=_;rw[Xn,Xn,K,<- L,List.take_append,EE (by rw[A8,Oc,Oc,CU,i];omega)]
    congr 2
    rw[A8,Oc,Oc,CU,i];omega
def Yz {P:Program} {w:World} {ops:Array Oper} {j:List Oper} {o:Oper} {a:Act} {Q:Exit->Act->World->Prop} (r:o.guard=none) (d s:Operand) (g m:TypeId)
 (y:o.op = .call { callee:=.builtin .copy,args:=#[d,s],argTypes:=#[g,m] }) (b:TypeId) (z:P.underlying g=some (.slice b)) (t:(P.info? b).map (·.size)=some 1)
 {e:TypeId} {A:Option Addr} {n c:Nat} {l:List UInt8} (p:w.ownsRow 0 e 1 (.slice A n c) n (CG l)) (i:Option Addr) (f k off:Nat) (x:ByteArray)
 (B:a.eval d = .slice i f k) (C:a.eval s = .string x)
 (u:0<x.size->i=A.map (·.add (off*1))) (v:x.size<=f) (q:off+x.size<=n)
 (h:∀ w',w'.ownsRow 0 e 1 (.slice A n c) n (CG (l.take off++x.data.toList++l.drop (off+x.size)))->w.grownBy w' (Value.ownBlock (.slice A n c))->wpList P ops Q j (a.put o.dst (goInt x.size)) w'):wpList P ops Q (o :: j) a w:=by
 refine bK r λK D=>?_;obtain⟨w',E,F,G⟩:=OP0 (P:=P) g m o.type b z t p i f k off x u v q;unfold Oper.wp;simp[execOp,y,resolve,invoke,builtin,B,C,E,Result.andThen];exact D _ _ (h w' F G)
def BF1(A:Option Addr)(m c a:Nat)(h:a<=m):∃ b k,(∀ w:World,(Instr.sliceAt 39 (.slice A m c) (some (.int .i64 a)) none none).run Tryz.prog w = .ok (.slice b (m-a) k) w)/\(a<c->b=A.map (·.add (a*1))):=by
 have d:(0:Int)<=(a:Int):=by omega
 have e:(a:Int)<=(m:Int):=by omega
 refine⟨if c=a then A else A.map (·.add (a*1)),c-a,λw=>?_,λh=>AO (by omega)⟩;go_simp
def lenV:Value->Nat
 | .slice _ n _=>n
 | _=>0
def LM1 (v:Value) (l:List UInt8) (a:Nat) (t:ByteArray) (w:World) (j:w.ownsRow 0 5 1 v l.length (CG l)) (hl:l.length<=67108864) (K:a+t.size<=67108864) :
 Calls Tryz.prog 167 #[v,.int .i64 a,.string t] w (zW w 5 1 v (GR l a t.data.toList).length (CG (GR l a t.data.toList))):=by
 obtain⟨L,M,z,B,C⟩:=IP infoByte;have s:=Ac j;clear j;obtain⟨N,u⟩:∃ N,a+t.size=N:=⟨_,rfl⟩
 have U:N<=67108864:=by omega
 have V:(a:Int)+(t.size:Int)=(N:Int):=by omega
 have b:=Ac u;clear u K;go_enter Tryz.func167,Tryz.ntmps167
 go_wp2_with fail
 go_loopw [0] (λg wr=>∃ m:Nat,l.length<=m/\m<=max l.length N/\wr.ownsRow 0 5 1 g m (CG (Ef l m))/\GK w v wr g) (λg _=>N-lenV g)
 case atStart=>exact⟨l.length,AY _,by omega,by rw[zD (AY _)];exact s,GK.refl _ _⟩
 case round =>
  obtain⟨m,D,W,h,x⟩:=hrel
  have X:m<=67108864:=by omega
  obtain⟨A,c,rfl,Y,_⟩:=BS.Ed h;have o:=Ac h;have y:=Ac x;clear s h x;by_cases E:m<N
  ·have O:=Ac (show m+1<=maxLen by unfold maxLen;omega);have P:=Ac (show(m+1)*1<=140737488355328 by omega);have Q:=Ac (DP0 D E)
   go_wp2_with ((at_builtin;refine Aq _ rfl (.tmp 14) (.tmp 15) 39 39 rfl (0) 5 L _ 1 1 IV M z B C bD (by decide) (_) (m) (_) rfl (o.alloc _) (.slice (some ⟨_,0,none⟩) 1 1) (1) ([Value.int .u8 0]) rfl (IW _ IV ⟨_,0,none⟩ 1 1 ([Value.int .u8 0]) rfl (JQ (I8 _ _)) (by simp[Value.oneCell'])) (O) (P) (BR _) ?_;intro v1 w1 d e _ n);have f:=Ac d;have F:=Ac ((y.alloc _).app e n);clear d e n)
   rw[pI,Q.out]at f;obtain⟨A2,c2,p,_,_⟩:=BS.Ed f;have G:=Ac p;clear p
   go_roundw
   case rel=>exact⟨m+1,by omega,by omega,f,F⟩
   case measure=>rw[G.out];simp[lenV];omega
  ·have H:a<=m:=by have:=b.out;omega
   obtain⟨R,k,Z,q⟩:=BF1 A m c a H;have I:=Ac q;have r:=Ac (show m=max l.length N by omega);clear q
   go_wp2_with (with_reducible refine Yz rfl (.tmp 19) (.tmp 20) 39 9 rfl 5 IV (by kernel_rfl) o.out R (m-a) k a t rfl rfl (λh0=>I.out (by have:=b.out;omega)) (by have:=b.out;omega) (by have:=b.out;omega) ?_;intro w1 d e;have f:=Ac d;have J:=Ac e;clear d e)
   have i:t.data.toList.length=t.size:=by simp
   have S:m=(GR l a t.data.toList).length:=by rw[Lh,i,r.out,<- b.out]
   have T:Ef l m=Ef l (a+t.data.toList.length):=by
    unfold Ef;rw[i,b.out,show m-l.length=N-l.length by have:=r.out;omega]
   go_ret;refine⟨_,rfl, ?_,y.trans ⟨J,.inl rfl⟩⟩;have:=f.out;rw[T,<- i]at this;rw[<- S];exact this
def OW1{v a:Value}{n g:Nat}(h:∀ k,v.ownBlock=some k->k≠g)(c:a.ownBlock=v.ownBlock\/a.ownBlock=some n)(d:g<n):∀ k,a.ownBlock=some k->k≠g:=λk b=>by
 rcases c with e | e
 ·exact h k (e ▸ b)
 ·rw[e]at b;cases b;omega
def TW(c:Ch):Value:=.agg #[.int .i64 c.file,.int .i64 c.at_,.string c.text,.bool c.cut]
def Ch.cells(c:Ch):List Value:=[.int .i64 c.file,.int .i64 c.at_,.string c.text,.bool c.cut]
def OI1{w:World}{b:Nat}{e:TypeId}{A:Option Addr}{n c k:Nat}{l:List UInt8}(h:w.ownsRow b e 1 (.slice A n c) n (CG l))(r:k<=n):w.ownsRow b e 1 (.slice A k c) k (CG (l.take k)):=by
 have s:l.length=n:=by have:=h.1;rw[Oc]at this;omega
 refine⟨by rw[Oc,CU];omega, ?_⟩
 rcases h.2 with⟨m,t⟩ |⟨g,cap,a,o,d,p,q,f,i,j⟩
 ·cases m;have:k=0:=by omega
  subst this;exact .inl ⟨rfl,rfl⟩
 ·cases o
  refine .inr ⟨g,c,a,rfl,d,p,by omega,f,i, ?_⟩
  have e:(a.toList.take (n*1)).take (k*1)=a.toList.take (k*1):=by rw[MF,MC (by omega)]
  rw[<- e,j];simp[CG,QX]
def LE1(A:Option Addr)(m c a:Nat)(h:a<=c)(w:World):(Instr.sliceAt 39 (.slice A m c) none (some (.int .i64 a)) none).run Tryz.prog w = .ok (.slice A a c) w:=by
 have b:(0:Int)<=(a:Int):=by omega
 have d:(a:Int)<=(c:Int):=by omega
 go_simp
def uM (c:Ch) (v:Value) (l:List UInt8) (w:World) (r:w.ownsRow 0 5 1 v l.length (CG l)) (W:l.length<=67108864) (X:c.fits) :
 Calls Tryz.prog 87 #[TW c,v] w (zW w 5 1 v (c.done l).length (CG (c.done l))):=by
 obtain⟨Y,Z,G,H,I⟩:=IP infoByte;obtain⟨f,a,t,b⟩:=c;obtain⟨hf,ha,s,J⟩:=X;simp only at hf ha s J;show Calls Tryz.prog 87 #[.agg #[.int .i64 f,.int .i64 a,.string t,.bool b],v] w _;have i:=Ac r;have B:=Ac (Has.new w 156 #[.int .i64 f,.int .i64 a,.string t,.bool b]);have o:=Ac ((AU w.heap.size w).alloc (AY _) (.cells #[.int .i64 f,.int .i64 a,.string t,.bool b] 156));clear r
 cases b with
 | false =>
   have E:=Ac (show Ch.done ⟨f,a,t,false⟩ l=GR l a t.data.toList from rfl);have T:=Ac (λw1 h1=>LM1 v l a t w1 h1 W s);rw[E.out];go_enter Tryz.func87,Tryz.ntmps87
   go_wp2_with (go_at_call 167;(with_reducible refine(T.out _ (i.out.alloc _)).mono ?_);rintro e w1 ⟨d,rfl,h,K⟩)
   go_ret;exact⟨d,rfl,h,K.start o⟩
 | true =>
   have E:=Ac (show Ch.done ⟨f,a,t,true⟩ l=(Ef l a).take a from rfl);rw[E.out];have HB:=Ac o.size;go_enter Tryz.func87,Tryz.ntmps87
   go_wp2_with fail
   go_loopw [1] (λd wr=>∃ m:Nat,l.length<=m/\m<=max l.length a/\wr.ownsRow 0 5 1 d m (CG (Ef l m))/\GK w v wr d/\Has wr w.heap.size 156 #[.int .i64 f,.int .i64 a,.string t,.bool true]/\∀ k,d.ownBlock=some k->k≠w.heap.size) (λd _=>a-lenV d)
   case atStart=>exact⟨l.length,AY _,by omega,by rw[zD (AY _)];exact i.alloc _,(GK.refl _ _).alloc _,B,λk hk e=>by have:=(i.lt k hk).2;omega⟩
   case round =>
    obtain⟨m,L,aa,g,C,j,u⟩:=hrel
    have ab:m<=67108864:=by omega
    obtain⟨A,c,rfl,ac,_⟩:=BS.Ed g;have x:=Ac g;have D:=Ac C;have M:=Ac j;have y:=Ac u
    obtain⟨c0,c1,c2⟩:=(show wr.cell? ⟨w.heap.size,1,none⟩=some (.int .i64 a)/\True/\True from⟨j.cell 1,trivial,trivial⟩)
    have cz:=j.lt;clear i g C j u B o;by_cases N:m<a
    ·have G1:=Ac (show m+1<=maxLen by unfold maxLen;omega);have G2:=Ac (show(m+1)*1<=140737488355328 by omega);have HZ:=Ac (DP0 L N)
     go_wp2_with ((at_builtin;refine Aq _ rfl (.tmp 12) (.tmp 13) 39 39 rfl (0) 5 Y _ 1 1 IV Z G H I bD (by decide) (_) (m) (_) rfl (x.alloc _) (.slice (some ⟨_,0,none⟩) 1 1) (1) ([Value.int .u8 0]) rfl (IW _ IV ⟨_,0,none⟩ 1 1 ([Value.int .u8 0]) rfl (JQ (I8 _ _)) (by simp[Value.oneCell'])) (G1) (G2) (BR _) ?_;intro d w1 h p _ n);have q:=Ac h;have O:=Ac ((D.alloc _).app p n);have P:=Ac ((M.alloc _).grown p (λe=>y _ e.symm rfl));have F:=Ac (OW1 y n (by simp;omega));clear h p n)
     rw[pI,HZ.out]at q;obtain⟨A2,c2,z,_,_⟩:=BS.Ed q;have Q:=Ac z;clear z
     go_roundw
     case rel=>exact⟨m+1,by omega,by omega,q,O,P,F⟩
     case measure=>rw[Q.out];simp[lenV];omega
    ·have R:a<=m:=by omega
     have S:a<=c:=by omega
     have ad:=λw=>LE1 A m c a S w;have U:=Ac (show m=max l.length a by omega)
     go_wp2_with fail
     go_ret;have g:=OI1 x R
     have hz:Ef l m=Ef l a:=by unfold Ef;rw[show m-l.length=a-l.length by have:=U.out;omega]
     have V:((Ef l a).take a).length=a:=by rw[CU,Rk];omega
     rw[hz]at g;refine⟨_,rfl, ?_,D.trans ⟨grownBy_refl _ _,.inl ?_⟩⟩
     ·rw[V];exact g
     ·cases A <;> rfl
def rowB(v:Value)(l:List UInt8):Row:=⟨v,5,1,l.length,CG l⟩
def Hr(ws:List Ch):List Value:=ws.flatMap Ch.cells
def PH(v:Value)(ws:List Ch):Row:=⟨v,156,4,ws.length,Hr ws⟩
def lS(fs:Int)(e:Bool)(f:Nat)(a b c d g:Value):Array Value:=#[a,b,c,d,g,.int .i64 fs,.bool e,.int .i64 f]
def O8(l0 e l1 f:List UInt8)(ws:List Ch)(a b c d g:Value):List Row:=[rowB a l0,rowB b e,rowB c l1,rowB d f,PH g ws]
def SK(w:World)(b:List (Option Nat))(g:Nat)(l0 h l1 i:List UInt8)(ws:List Ch)(fs:Int)(j:Bool)(k:Nat):Prop :=
 ∃ a c d e f,b=II g (O8 l0 h l1 i ws a c d e f)/\Ob w g 96 (lS fs j k a c d e f) (O8 l0 h l1 i ws a c d e f)
def DP(w:World)(b:List (Option Nat))(g:Nat)(D:Dk):Prop:=SK w b g D.l0 (D.seen 0) D.l1 (D.seen 1) D.waits D.fails D.down D.count
def Tu(w:World)(b:List (Option Nat))(g:Nat)(c:Dk)(r:Value)(e:Ending)(w':World):Prop :=
 e = .returned r/\∃ a,DP w' a g c/\Turn b a w w'
section
variable {w w':World} {b:List (Option Nat)} {g:Nat} {D:Dk} {t:TypeId} {a0 a1 a2 a3 a4 a5 a6 a7:Value}
def Has.Ov(h:Has w g t #[a0,a1,a2,a3,a4,a5,a6,a7]):w.cell? ⟨g,0,none⟩=some a0/\w.cell? ⟨g,1,none⟩=some a1/\w.cell? ⟨g,2,none⟩=some a2/\w.cell? ⟨g,3,none⟩=some a3/\w.cell? ⟨g,4,none⟩=some a4/\w.cell? ⟨g,5,none⟩=some a5/\w.cell? ⟨g,6,none⟩=some a6/\w.cell? ⟨g,7,none⟩=some a7 :=
 ⟨h.cell 0,h.cell 1,h.cell 2,h.cell 3,h.cell 4,h.cell 5,h.cell 6,h.cell 7⟩
def DP.below(h:DP w b g D)(a:Below w.heap.size w w'):DP w' b g D:=by
 obtain⟨c,d,e,f,i,j,k⟩:=h;exact⟨c,d,e,f,i,j,k.below a⟩
def DP.lt(h:DP w b g D){k:Nat}(a:some k∈b):k<w.heap.size:=by
 obtain⟨d,e,f,i,j,rfl,c⟩:=h;exact c.lt a
end
def wS (g:Nat) (D:Dk) (b:List (Option Nat)) (w:World) (h:DP w b g D) (o:D.ok) (p:D.count<=4000000000000000000) :
 Calls Tryz.prog 189 #[.pointer (some ⟨g,0,none⟩)] w (Tu w b g D.turn (.int .i64 D.Dw)):=by
 obtain⟨f,i,j,k,l,rfl,d⟩:=h;have e:=Ac d;obtain⟨c0,x,y,z,A,q,r,s⟩:=d.has.Ov;have B:=d.has.frozen;have C:=d.has.lt;have n:=o.fails;obtain⟨l0,l1,ws,fs,t,a⟩:=D;simp only at q r s n p;clear d;obtain⟨u,v⟩:=n
 cases t with
 | true =>
   have E:=Ac (show Dk.turn ⟨l0,l1,ws,fs,true,a⟩=⟨l0,l1,ws,fs,true,a⟩/\Dk.Dw ⟨l0,l1,ws,fs,true,a⟩=2 from⟨AC (.inl rfl),AC (.inl rfl)⟩);rw[E.1,E.2];go_enter Tryz.func189,mJ
   go_wp2_with fail
   go_ret;exact⟨rfl,_,⟨f,i,j,k,l,rfl,e.set 6 (.bool true)⟩,Turn.set _ _ _ _ _⟩
 | false =>
   by_cases c:fs=0
   ·have E:=Ac (show Dk.turn ⟨l0,l1,ws,fs,false,a⟩=⟨l0,l1,ws,fs,true,a⟩/\Dk.Dw ⟨l0,l1,ws,fs,false,a⟩=2 from ⟨AC (.inr c),AC (.inr c)⟩);rw[E.1,E.2];subst c;go_enter Tryz.func189,mJ
    go_wp2_with fail
    go_ret;exact⟨rfl,_,⟨f,i,j,k,l,rfl,e.set 6 (.bool true)⟩,Turn.set _ _ _ _ _⟩
   ·have m:¬ Dk.stops ⟨l0,l1,ws,fs,false,a⟩:=λh=>h.elim (λh=>by cases h) c;have E:=Ac (show Dk.turn ⟨l0,l1,ws,fs,false,a⟩=⟨l0,l1,ws,if 0<fs then fs-1 else fs,false,a+1⟩/\Dk.Dw ⟨l0,l1,ws,fs,false,a⟩=0 from⟨AO m,AO m⟩);rw[E.1,E.2]
    have F:(fs == 0)=false:=by rw[FK];exact c
    have G:((a+1:Nat):Int)=(a:Int)+1:=by omega
    clear m c;by_cases f1:0<fs
    ·rw [AC f1];go_enter Tryz.func189,mJ
     go_wp2_with fail
     go_ret;refine⟨rfl,_,⟨f,i,j,k,l,rfl, ?_⟩,(Turn.set _ _ 5 (.int .i64 (fs-1)) _).trans (Turn.set _ _ 7 (.int .i64 ((a:Int)+1)) _)⟩;exact(e.set 5 (.int .i64 (fs-1))).set 7 (.int .i64 ((a:Int)+1))
    ·rw [AO f1];go_enter Tryz.func189,mJ
     go_wp2_with fail
     go_ret;refine⟨rfl,_,⟨f,i,j,k,l,rfl, ?_⟩,Turn.set _ _ 7 (.int .i64 ((a:Int)+1)) _⟩;exact e.set 7 (.int .i64 ((a:Int)+1))
def NT(f a n:Int):Bool:=decide (Jr f a n)
def Un{f a n:Int}(h:Jr f a n):NT f a n=true:=EW h
def Ll{f a n:Int}(h:¬ Jr f a n):NT f a n=false:=EY h
def Ub(f a n:Int)(w:World):Calls Tryz.prog 169 #[.int .i64 f,.int .i64 a,.int .i64 n] w λe w'=>e = .returned (.bool (NT f a n))/\w=w':=by
 by_cases k:0<=f
 rotate_left
 ·have E:=Ac (show NT f a n=false from Ll (λh=>by obtain ⟨b,c,d,g,i,j⟩:=h;omega));go_enter VG,VF
  go_wp2_with fail
  go_ret;exact⟨Oi (by rw[E.out]),rfl⟩
 by_cases l:f<2
 rotate_left
 ·have E:=Ac (show NT f a n=false from Ll (λh=>by obtain ⟨b,c,d,g,i,j⟩:=h;omega));go_enter VG,VF
  go_wp2_with fail
  go_ret;exact⟨Oi (by rw[E.out]),rfl⟩
 by_cases m:0<=a
 rotate_left
 ·have E:=Ac (show NT f a n=false from Ll (λh=>by obtain ⟨b,c,d,g,i,j⟩:=h;omega));go_enter VG,VF
  go_wp2_with fail
  go_ret;exact⟨Oi (by rw[E.out]),rfl⟩
 by_cases o:0<=n
 rotate_left
 ·have E:=Ac (show NT f a n=false from Ll (λh=>by obtain ⟨b,c,d,g,i,j⟩:=h;omega));go_enter VG,VF
  go_wp2_with fail
  go_ret;exact⟨Oi (by rw[E.out]),rfl⟩
 by_cases p:a<=67108864
 rotate_left
 ·have E:=Ac (show NT f a n=false from Ll (λh=>by obtain ⟨b,c,d,g,i,j⟩:=h;omega));go_enter VG,VF
  go_wp2_with fail
  go_ret;exact⟨Oi (by rw[E.out]),rfl⟩
 by_cases q:n<=67108864-a
 rotate_left
 ·have E:=Ac (show NT f a n=false from Ll (λh=>by obtain ⟨b,c,d,g,i,j⟩:=h;omega));go_enter VG,VF
  go_wp2_with fail
  go_ret;exact⟨Oi (by rw[E.out]),rfl⟩
 have E:=Ac (show NT f a n=true from Un ⟨k,l,m,o,p,q⟩);go_enter VG,VF
 go_wp2_with fail
 go_ret;exact⟨Oi (by rw[E.out]),rfl⟩
def Bg{w:World}{b:Nat}{e:TypeId}{a:Nat}{v:Value}{n:Nat}{xs:List Value}(h:w.ownsRow b e a v n xs):∃ A c,v = .slice A n c/\n<=c:=by
 rcases h.2 with⟨rfl,rfl⟩ |⟨g,cap,f,rfl,_,_,d,_⟩
 ·exact⟨none,0,rfl,AY _⟩
 ·exact⟨_,_,rfl,d⟩
def Ob.own{w:World}{g:Nat}{t:TypeId}{cs:Array Value}{rs:List Row}(h:Ob w g t cs rs)(i:Nat){r:Row}(a:rs[i]? = some r):w.ownsRow 0 r.e r.size r.v r.n r.xs:=h.rows r (F5 a)
def slice_mid {w:World} {A:Option Addr} {m c a n:Nat} {l:List UInt8} (f:w.ownsRow 0 5 1 (.slice A m c) m (CG l)) (h:a+n<=m) :
 ∃ d k,(∀ w1:World,(Instr.sliceAt 39 (.slice A m c) (some (.int .i64 a)) (some (.int .i64 ((a:Int)+(n:Int)))) none).run Tryz.prog w1 = .ok (.slice d n k) w1)/\BS w d n ((l.drop a).take n):=by
 obtain⟨A',c',b,p,e⟩:=BS.Ed f
 cases b
 have q:(0:Int)<=(a:Int):=by omega
 have r:(a:Int)<=(a:Int)+(n:Int):=by omega
 have s:(a:Int)+(n:Int)<=(c:Int):=by omega
 have t:((a:Int)+(n:Int)).toNat-a=n:=by omega
 refine⟨if c=a then A else A.map (·.add (a*1)),c-a,λw1=>?_, ?_⟩
 ·go_simp
 ·have u:=e.1;refine⟨by rw[CU,DJ];omega,λx=>?_⟩;obtain⟨g,off,rfl,j,o⟩:=e.2 (by omega);rw[AO (by omega)];refine⟨g,off+a,by simp only[mQ,addr_add];simp,j,λi v b=>?_⟩;rw[GZ]at b
  split at b
  ·rw [IX] at b;rw[TA];exact o _ _ b
  ·cases b
def DP.seen{w:World}{b:List (Option Nat)}{g:Nat}{D:Dk}(h:DP w b g D)(f:Nat)(m:f<2):∃ v A c,w.cell? ⟨g,2*f+1,none⟩=some v/\v = .slice A (D.seen f).length c/\w.ownsRow 0 5 1 v (D.seen f).length (CG (D.seen f)):=by
 obtain⟨n,i,o,j,p,rfl,d⟩:=h;obtain⟨c0,k,q,l,r,s,t,u⟩:=d.has.Ov
 rcases(show f=0\/f=1 by omega)with rfl | rfl
 ·have a:=d.own 1 rfl;obtain⟨A,c,e,_⟩:=Bg a;exact⟨i,A,c,k,e,a⟩
 ·have a:=d.own 3 rfl;obtain⟨A,c,e,_⟩:=Bg a;exact⟨j,A,c,l,e,a⟩
def DP.down{w:World}{b:List (Option Nat)}{g:Nat}{D:Dk}(h:DP w b g D):w.cell? ⟨g,6,none⟩=some (.bool D.down)/\g<w.heap.size/\∀ i,w.frozen? ⟨g,i,none⟩=false:=by
 obtain⟨c,d,e,f,j,rfl,a⟩:=h;exact⟨a.has.Ov.2.2.2.2.2.2.1,a.has.lt,a.has.frozen⟩
def jE(g:Nat)(D:Dk)(b:List (Option Nat))(f:Int)(w:World)(h:DP w b g D)(l:D.ok):Calls Tryz.prog 94 #[.pointer (some ⟨g,0,none⟩),.int .i64 f] w λe w'=>e = .returned (.tuple #[.int .i64 (D.Zo f),.int .i64 (D.Vl f)])/\w=w':=by
 obtain⟨i,o,_⟩:=h.down;have R:=Ac (λw1=>Ub f 0 0 w1);by_cases a:0<=f/\f<2
 ·rw [Un ⟨a.1,a.2,by omega,by omega,by omega,by omega⟩] at R
  obtain⟨F,rfl⟩:∃ F:Nat,f=F:=⟨f.toNat,by omega⟩
  cases d:D.down with
  | true =>
    have E:=Ac (show D.Zo F=0/\D.Vl F=2 from⟨AO (λh=>by rw[d]at h;exact absurd h.2.2 (by decide)),by unfold Dk.Vl;rw[AC a,AC d]⟩);rw[E.1,E.2];rw[d]at i;clear d;go_enter Tryz.func94,Tryz.ntmps94
    go_wp2_with (go_at_call 169;(with_reducible refine(R.out _).mono ?_);rintro e w1 ⟨rfl,rfl⟩)
    go_ret2;exact⟨rfl,rfl⟩
  | false =>
    have E:=Ac (show D.Zo F=(D.seen F).length/\D.Vl F=0 from⟨AC ⟨a.1,a.2,d⟩,by unfold Dk.Vl;rw[AC a,AO (by rw[d];decide)]⟩);rw[E.1,E.2];rw[d]at i;obtain⟨v,A,c,k,rfl,_⟩:=h.seen F (by omega);obtain⟨S,j⟩:∃ S,(D.seen F).length=S:=⟨_,rfl⟩;rw[j]at k ⊢;clear d j h;obtain⟨m,n⟩:=a
    rcases(show F=0\/F=1 by omega)with rfl | rfl
    all_goals
     (first | rw[show((0:Nat):Int)=0 from rfl]at R | rw[show((1:Nat):Int)=1 from rfl]at R)
     go_enter Tryz.func94,Tryz.ntmps94
     go_wp2_with (go_at_call 169;(with_reducible refine(R.out _).mono ?_);rintro e w1 ⟨rfl,rfl⟩)
     go_ret2;exact⟨rfl,rfl⟩
 ·rw [Ll (λh=>a ⟨h.1,h.2.1⟩)] at R;have E:=Ac (show D.Zo f=0/\D.Vl f=1 from⟨AO (λh=>a ⟨h.1,h.2.1⟩),AO a⟩);rw[E.1,E.2];clear a;go_enter Tryz.func94,Tryz.ntmps94
  go_wp2_with (go_at_call 169;(with_reducible refine(R.out _).mono ?_);rintro e w1 ⟨rfl,rfl⟩)
  go_ret2;exact⟨rfl,rfl⟩
def jZ(g:Nat)(D:Dk)(b:List (Option Nat))(f a n:Int)(w:World)(h:DP w b g D)(u:D.ok):Calls Tryz.prog 95 #[.pointer (some ⟨g,0,none⟩),.int .i64 f,.int .i64 a,.int .i64 n] w λe w'=>e = .returned (.tuple #[.string (D.Fa f a n),.int .i64 (D.Dy f a n)])/\w=w':=by
 obtain⟨q,H,_⟩:=h.down;have R:=Ac (λw1=>Ub f a n w1);by_cases i:Jr f a n
 ·rw [Un i] at R
  cases d:D.down with
  | true =>
    have E:=Ac (show D.Fa f a n=⟨#[]⟩/\D.Dy f a n=2 from⟨AO (λh=>by rw[d]at h;exact absurd h.2.1 (by decide)),by unfold Dk.Dy;rw[AC i,AC d]⟩);rw[E.1,E.2];rw[d]at q;clear d;go_enter Tryz.func95,Tryz.ntmps95
    go_wp2_with (go_at_call 169;(with_reducible refine(R.out _).mono ?_);rintro e w1 ⟨rfl,rfl⟩)
    go_ret2;exact⟨rfl,rfl⟩
  | false =>
    obtain⟨f1,f2,y,z,B,C⟩:=i;have m:Hid (Jr f a n):=⟨f1,f2,y,z,B,C⟩
    obtain⟨F,rfl⟩:∃ F:Nat,f=F:=⟨f.toNat,by omega⟩
    obtain⟨a,rfl⟩:∃ F:Nat,a=F:=⟨a.toNat,by omega⟩
    obtain⟨n,rfl⟩:∃ F:Nat,n=F:=⟨n.toNat,by omega⟩
    rw[d]at q;obtain⟨v,A,c,r,rfl,o⟩:=h.seen F (by omega)
    have p:=u.seen F;obtain⟨S,l⟩:∃ S,(D.seen F).length=S:=⟨_,rfl⟩
    by_cases j:a+n<=(D.seen F).length
    ·have E:=Ac (show D.Fa F a n=bsOf (((D.seen F).drop a).take n)/\D.Dy F a n=0 from ⟨AC ⟨m,d,by simpa using (by omega:(a:Int)+n<=(D.seen F).length)⟩,by unfold Dk.Dy;rw [AC m.out,AO (by rw [d];decide),AC (by simpa using (by omega:(a:Int)+n<=(D.seen F).length))]⟩);rw[E.1,E.2];obtain⟨I,k,G,s⟩:=slice_mid o j;have x:=UR (c:=k) s;obtain⟨T,t⟩:∃ T,bsOf (((D.seen F).drop a).take n)=T:=⟨_,rfl⟩;rw[t]at x ⊢;rw[l]at r G j p;clear d l h o s t
     rcases(show F=0\/F=1 by omega)with rfl | rfl
     all_goals
      (first | rw[show((0:Nat):Int)=0 from rfl]at R | rw[show((1:Nat):Int)=1 from rfl]at R)
      go_enter Tryz.func95,Tryz.ntmps95
      go_wp2_with (go_at_call 169;(with_reducible refine(R.out _).mono ?_);rintro e w1 ⟨rfl,rfl⟩)
      go_ret2;exact⟨rfl,rfl⟩
    ·have E:=Ac (show D.Fa F a n=⟨#[]⟩/\D.Dy F a n=3 from ⟨AO (λh=>j (by have:=h.2.2;simp at this;omega)),by unfold Dk.Dy;rw [AC m.out,AO (by rw [d];decide),AO (λh=>j (by simp at h;omega))]⟩);rw[E.1,E.2];rw[l]at r j p;clear d l h o
     rcases(show F=0\/F=1 by omega)with rfl | rfl
     all_goals
      (first | rw[show((0:Nat):Int)=0 from rfl]at R | rw[show((1:Nat):Int)=1 from rfl]at R)
      go_enter Tryz.func95,Tryz.ntmps95
      go_wp2_with (go_at_call 169;(with_reducible refine(R.out _).mono ?_);rintro e w1 ⟨rfl,rfl⟩)
      go_ret2;exact⟨rfl,rfl⟩
 ·rw [Ll i] at R;have E:=Ac (show D.Fa f a n=⟨#[]⟩/\D.Dy f a n=1 from⟨AO (λh=>i h.1),AO i⟩);rw[E.1,E.2];clear i;go_enter Tryz.func95,Tryz.ntmps95
  go_wp2_with (go_at_call 169;(with_reducible refine(R.out _).mono ?_);rintro e w1 ⟨rfl,rfl⟩)
  go_ret2;exact⟨rfl,rfl⟩
def Dk.new:Dk:=⟨[],[],[], -1,false,0⟩
def Dk.OX1:Dk.new.ok:=⟨by decide,by decide,(λc a=>by cases a),by show -1<=(-1:Int)/\(-1:Int)<=9223372036854775807;omega⟩
def OA1(w:World)(e:Ending)(w':World):Prop:=∃ g b,e = .returned (.pointer (some ⟨g,0,none⟩))/\DP w' b g Dk.new/\Turn [] b w w'
def KH1(w:World):Calls Tryz.prog 6 #[] w (OA1 w):=by
 go_enter Tryz.func6,Tryz.ntmps6
 go_wp2_with fail
 go_ret;refine⟨_,_,rfl,⟨.slice none 0 0,.slice none 0 0,.slice none 0 0,.slice none 0 0,.slice none 0 0,rfl,⟨Has.new _ _ _,λr b=>?_, ?_⟩⟩, ?_⟩
 ·simp only [O8,BI,List.mem_nil_iff,OC] at b
  rcases b with rfl | rfl | rfl | rfl | rfl <;> exact JJ _ _ _ _
 ·simp[Apart,II,O8,rowB,PH,Value.ownBlock]
 ·refine ⟨rfl,rfl,rfl,by simp,λk a _=>Below.heap_alloc _ _ _ a,λk a=>?_⟩;simp[II,O8,rowB,PH,Value.ownBlock]at a;exact .inr (by omega)
def Qq {P:Program} {ops:Array Oper} {o:Oper} {a:Act} {w:World} {K:Act->World->Prop} {Q:Exit->Act->World->Prop} {E:Prop} (u:o.guard=none) (s x:Operand) (t g:TypeId)
 (G:o.op = .call { callee:=.builtin .append,args:=#[s,x],argTypes:=#[t,g] })
 (d:Nat) (e:TypeId) (i:TypeInfo) (z:Value) (b bytes:Nat) (H:P.underlying t=some (.slice e)) (I:P.info? e=some i) (J:i.zero=some z)
 (l:i.size=b) (B:i.bytes=bytes) (C:z.cells.size=b) (D:0<b)
 (v:Value) (n:Nat) (xs:List Value) (L:a.eval s=v) (q:w.ownsRow d e b v n xs)
 (y:Value) (m:Nat) (f:List Value) (M:a.eval x=y) (r:Src P b g y m f w)
 (F:n+m<=maxLen) (k:(n+m)*bytes<=140737488355328) (p:d<=w.heap.size)
 (h:∀ A c w',w'.ownsRow d e b (.slice A (n+m) c) (n+m) (xs++f)->w.grownBy w' v.ownBlock->(Value.ownBlock (.slice A (n+m) c)=v.ownBlock\/Value.ownBlock (.slice A (n+m) c)=some w.heap.size)->K (a.put o.dst (.slice A (n+m) c)) w') :
 if Region.wanted o (yielded ops a.tmps)=true then Oper.wp P o a w K Q else E:=by
 have N:Region.wanted o (yielded ops a.tmps)=true:=by simp[Region.wanted,u]
 rw[AC N];refine Zr w s x t g G d e i z b bytes H I J l B C D v n xs L q y m f M r F k p λv' w' j O _ R=>?_;obtain⟨A,c,rfl,_⟩:=Bg j;exact h A c w' j O R
def lJ:(Tryz.prog.info? 156).map (λi=>(i.zero,i.size,i.bytes))=some (some (.agg #[.int .i64 0,.int .i64 0,.string ⟨#[]⟩,.bool false]),4,40):=by kernel_rfl
def Ze:(Value.agg #[.int .i64 0,.int .i64 0,.string ⟨#[]⟩,.bool false]).cells.size=4:=by kernel_rfl
def Has.cells4{w:World}{g:Nat}{t:TypeId}{a0 a1 a2 a3:Value}(h:Has w g t #[a0,a1,a2,a3]):w.cell? ⟨g,0,none⟩=some a0/\w.cell? ⟨g,1,none⟩=some a1/\w.cell? ⟨g,2,none⟩=some a2/\w.cell? ⟨g,3,none⟩=some a3 :=
 ⟨h.cell 0,h.cell 1,h.cell 2,h.cell 3⟩
def Wu(ws:List Ch)(c:Ch):Hr (ws++[c])=Hr ws++c.cells:=by simp[Hr]
def Has.turn{w w':World}{b a:List (Option Nat)}{g:Nat}{t:TypeId}{cs:Array Value}(h:Has w g t cs)(c:Turn b a w w')(d:some g∉b):Has w' g t cs:=(c.block g h.lt d).trans h
def Turn.not{w w':World}{b a:List (Option Nat)}(d:Turn b a w w'){k:Nat}(f:k<w.heap.size)(e:some k∉b):some k∉a:=λh=>by
 rcases d.new k h with c | c
 ·exact e c
 ·omega
def Zc(c:Ch):∀ u∈c.cells,u.oneCell'=true:=λu a=>by
 simp only[Ch.cells,BI,PY,OC]at a
 rcases a with rfl | rfl | rfl | rfl <;> rfl
def QD1 {w w':World} {g:Nat} {l0 j l1 l:List UInt8} {ws:List Ch} {fs:Int} {n:Bool} {p:Nat} {b d f i a v':Value} {c:Ch} {o:Obj}
 (h:Ob w g 96 (lS fs n p b d f i a) (O8 l0 j l1 l ws b d f i a))
 (s:w'.ownsRow 0 156 4 v' (ws.length+1) (Hr ws++c.cells)) (u:(w.drew.alloc o).grownBy w' a.ownBlock) (t:v'.ownBlock=a.ownBlock\/v'.ownBlock=some (w.drew.alloc o).heap.size) :
 Ob w' g 96 (lS fs n p b d f i a) (O8 l0 j l1 l (ws++[c]) b d f i v')/\Turn (II g (O8 l0 j l1 l ws b d f i a)) (II g (O8 l0 j l1 l (ws++[c]) b d f i v')) w w':=by
 have q:Below w.heap.size w (w.drew.alloc o):=(AU _ _).drew.alloc (AY _) _
 have:=(h.below q).row 4 (r:=PH a ws) (r':=PH v' (ws++[c])) rfl u (by
  show w'.ownsRow 0 156 4 v' (ws++[c]).length (Hr (ws++[c]))
  rw[Wu,A8];exact s) (t.imp id λe k v=>by
   have m:v'.ownBlock=some k:=v
   rw[e]at m;cases m;exact AY _)
 exact⟨this.1,(Turn.below _ q).trans this.2⟩
def GR0 (g:Nat) (D:Dk) (b:List (Option Nat)) (c:Ch) (w:World) (h:DP w b g D) (O:D.ok) (X:D.count<=4000000000000000000) (aq:D.waits.length<=1000000000) (u:c.fits) :
 Calls Tryz.prog 214 #[.pointer (some ⟨g,0,none⟩),TW c] w (Tu w b g (D.change c) (.int .i64 D.Dw)):=by
 obtain⟨i0,hi,ak,al,am⟩:=IP lJ;have an:=Ac (Has.new w 156 #[.int .i64 c.file,.int .i64 c.at_,.string c.text,.bool c.cut]);have G:=Ac ((AU w.heap.size w).alloc (AY _) (.cells #[.int .i64 c.file,.int .i64 c.at_,.string c.text,.bool c.cut] 156));have NB:=Ac (show some w.heap.size∉b from λK=>by have:=h.lt K;omega);have HH:=Ac h;have T:=Ac (λw1 (v:DP w1 b g D)=>wS g D b w1 v O X);have Y:=Ac u;have OK:=Ac O;have ar:c.file<2:=u.1;show Calls Tryz.prog 214 #[.pointer (some ⟨g,0,none⟩),.agg #[.int .i64 c.file,.int .i64 c.at_,.string c.text,.bool c.cut]] w _;clear h O u X;by_cases m:D.stops
 ·have E:=Ac (show D.Dw=2/\D.change c=D.turn from ⟨AC m,AC m⟩);rw[E.2];rw[E.1]at T ⊢;clear m;go_enter Tryz.func214,Tryz.ntmps214
  go_wp2_with (go_at_call 189;(with_reducible refine(T.out _ (HH.out.below G.out)).mono ?_);rintro e w1 ⟨rfl,b1,H,p⟩)
  go_ret;exact⟨rfl,b1,H,(Turn.below b G).trans p⟩
 ·have E:=Ac (show D.Dw=0 from AO m);have EC:=Ac (show D.change c={ D.turn with waits:=D.waits++[c] }from AO m);have ET:=Ac (show D.turn={ D with fails:=if 0<D.fails then D.fails-1 else D.fails,count:=D.count+1 }from AO m);have L:=Ac (λk=>Dk.Rj D c m k);have d:=Ac (show(D.change c).l0=D.l0/\(D.change c).l1=D.l1/\(D.change c).waits=D.waits++[c]/\(D.change c).fails=D.turn.fails/\(D.change c).down=D.turn.down/\(D.change c).count=D.turn.count by rw[EC.out];refine⟨?_, ?_,rfl,rfl,rfl,rfl⟩ <;> (rw[ET.out]));rw[E.out]at T ⊢;clear m;go_enter Tryz.func214,Tryz.ntmps214
  go_upto_region 4 with(go_at_call 189;(with_reducible refine(T.out _ (HH.out.below G.out)).mono ?_);rintro e w1 ⟨rfl,b1,H,p⟩)
  have Z:=Ac (show SK w1 b1 g D.l0 (D.seen 0) D.l1 (D.seen 1) D.waits D.turn.fails D.turn.down D.turn.count by
   have K:=H;rw[ET.out]at K ⊢
   exact K)
  have aa:=Ac ((Turn.below b G).trans p);have q:=Ac (an.turn p NB);have P:=Ac (p.not (by simp) NB);clear H p
  go_cut [3] (λs3 wx=>s3 = .pointer (some ⟨w.heap.size,0,none⟩)/\∃ b2,SK wx b2 g D.l0 (D.seen 0) D.l1 (D.seen 1) (D.waits++[c]) D.turn.fails D.turn.down D.turn.count/\Turn b b2 w wx/\Has wx w.heap.size 156 #[.int .i64 c.file,.int .i64 c.at_,.string c.text,.bool c.cut]/\some w.heap.size∉b2)
  case first =>
   obtain⟨v0,M,v2,N,v4,rfl,i⟩:=Z.out;have x:=Ac i;obtain⟨c0,c1,c2,c3,c4,c5,c6,c7⟩:=i.has.Ov;have cf:=i.has.frozen;have y:=i.has.lt;obtain⟨z,A,B,C⟩:=q.cells4;have F:=q.lt;clear i;have G1:=Ac (show D.waits.length+1<=maxLen by unfold maxLen;omega);have G2:=Ac (show(D.waits.length+1)*40<=140737488355328 by omega)
   go_region_law
    (refine Qq (by rfl) _ _ _ _ (by rfl) 0 156 i0 _ 4 40 XM hi ak al am Ze (by omega) v4 D.waits.length (Hr D.waits) (by rfl) ((x.own 4 rfl).drew.alloc _) _ 1 c.cells (by rfl) (IW _ XM ⟨_,0,none⟩ 1 1 c.cells rfl (JQ (I8 _ _)) (Zc c)) G1 G2 (BR _) ?_;intro A5 k5 U n aj ao;have a:=Ac (QD1 x n aj ao);have ab:=a.1.has.frozen;have I:=a.1.has.Ov.2.2.2.2.1;have ac:=a.1.has.lt)
   all_goals
    go_wp2_with fail
    go_meet;have ad:=a.2.not q.lt P;refine⟨rfl,_,⟨v0,M,v2,N,_,rfl,a.1.set 4 _⟩,aa.trans (a.2.trans (Turn.set _ _ _ _ _)),(q.turn a.2 P).turn (Turn.set g _ 4 _ U) ad,ad⟩
  case rest =>
   clear Z aa q P;obtain⟨rfl,b2,ap,ae,J,af⟩:=hcut;obtain⟨v0,M,v2,N,v4,rfl,i⟩:=ap;have x:=Ac i;have ag:=Ac ae;have ah:=Ac J;have y:=i.has.lt;obtain⟨z,A,B,C⟩:=J.cells4;have F:=J.lt;clear i ae J af;have ai:=Ac (OK.seen)
   rcases(show c.file=0\/c.file=1 by omega)with j | j
   ·have V:(c.file:Int)=0:=by omega
    have Q:=Ac (show(D.change c).seen 0=c.done (D.seen 0)by rw[L.out,AC j]);have R:=Ac (show(D.change c).seen 1=D.seen 1 by rw[L.out,AO (by omega)]);clear j
    go_wp2_with fail
    refine Du (wc) (by kernel_rfl) (by kernel_rfl) (CQ.start _) ?_
    repeat
     first
      | go_big_quiet_skip
      |(go_big_quiet_want;(first | go_big_quiet_op | go_simp);first | go_big_quiet_on |(apply NC;refine⟨λw' S=>?_, ?_⟩;(·(first |(with_reducible exact rfl) |(fail) |(obtain⟨u,j⟩:=S.facts;go_simp;first | done |(with_reducible exact rfl) |(with_reducible exact⟨rfl,rfl⟩))));go_big_quiet_on))
    refine MQ ?_;intro wq l;have W:=Ac l;have f:=Ac (x.below l);have s:=Ac (ah.Ai l);clear l z A B C F y;obtain⟨z,A,B,C⟩:=s.cells4;have F:=s.lt;obtain⟨c0,c1,c2,c3,c4,c5,c6,c7⟩:=f.has.Ov;have cf:=f.has.frozen;have y:=f.has.lt
    go_wp2_with fail
    have o:=Ac (λw1 v=>uM c M (D.seen 0) w1 v (ai 0) Y);unfold TW at o;rw[V]at o
    go_region_law
     (first |(go_simp;go_at_call 87;(with_reducible refine(o.out _ ((f.out.own 1 rfl).drew)).mono ?_);rintro e U ⟨v',rfl,n,t⟩;obtain⟨A5,k5,rfl,_⟩:=Bg n;have a:=Ac ((f.below (AU _ _).drew).row 1 (r:=rowB M (D.seen 0)) (r':=rowB _ (c.done (D.seen 0))) rfl t.grown n t.at_);have ab:=a.1.has.frozen;have I:=a.1.has.Ov;obtain⟨g0,g1,g2,g3,g4,g5,g6,g7⟩:=I;have ac:=a.1.has.lt))
    all_goals
     go_wp2_with fail
     go_ret;refine⟨rfl,_, ?_,ag.trans ((Turn.below _ W).trans ((Turn.below _ (AU _ _).drew).trans (a.2.trans (Turn.set _ _ 1 _ _))))⟩;unfold DP;rw[Q.out,R.out,d.1,d.2.1,d.2.2.1,d.2.2.2.1,d.2.2.2.2.1,d.2.2.2.2.2];exact⟨_,_,_,_,_,rfl,a.1.set 1 _⟩
   ·have V:(c.file:Int)=1:=by omega
    have Q:=Ac (show(D.change c).seen 1=c.done (D.seen 1)by rw[L.out,AC j]);have R:=Ac (show(D.change c).seen 0=D.seen 0 by rw[L.out,AO (by omega)]);clear j
    go_wp2_with fail
    refine Du (wc) (by kernel_rfl) (by kernel_rfl) (CQ.start _) ?_
    repeat
     first
      | go_big_quiet_skip
      |(go_big_quiet_want;(first | go_big_quiet_op | go_simp);first | go_big_quiet_on |(apply NC;refine⟨λw' S=>?_, ?_⟩;(·(first |(with_reducible exact rfl) |(fail) |(obtain⟨u,j⟩:=S.facts;go_simp;first | done |(with_reducible exact rfl) |(with_reducible exact⟨rfl,rfl⟩))));go_big_quiet_on))
    refine MQ ?_;intro wq l;have W:=Ac l;have f:=Ac (x.below l);have s:=Ac (ah.Ai l);clear l z A B C F y;obtain⟨z,A,B,C⟩:=s.cells4;have F:=s.lt;obtain⟨c0,c1,c2,c3,c4,c5,c6,c7⟩:=f.has.Ov;have cf:=f.has.frozen;have y:=f.has.lt
    go_wp2_with fail
    have o:=Ac (λw1 v=>uM c N (D.seen 1) w1 v (ai 1) Y);unfold TW at o;rw[V]at o
    go_region_law
     (first |(go_simp;go_at_call 87;(with_reducible refine(o.out _ ((f.out.own 3 rfl).drew)).mono ?_);rintro e U ⟨v',rfl,n,t⟩;obtain⟨A5,k5,rfl,_⟩:=Bg n;have a:=Ac ((f.below (AU _ _).drew).row 3 (r:=rowB N (D.seen 1)) (r':=rowB _ (c.done (D.seen 1))) rfl t.grown n t.at_);have ab:=a.1.has.frozen;have I:=a.1.has.Ov;obtain⟨g0,g1,g2,g3,g4,g5,g6,g7⟩:=I;have ac:=a.1.has.lt))
    all_goals
     go_wp2_with fail
     go_ret;refine⟨rfl,_, ?_,ag.trans ((Turn.below _ W).trans ((Turn.below _ (AU _ _).drew).trans (a.2.trans (Turn.set _ _ 3 _ _))))⟩;unfold DP;rw[Q.out,R.out,d.1,d.2.1,d.2.2.1,d.2.2.2.1,d.2.2.2.2.1,d.2.2.2.2.2];exact⟨_,_,_,_,_,rfl,a.1.set 3 _⟩
def Tu.refl{w:World}{b:List (Option Nat)}{g:Nat}{D:Dk}{r:Value}(h:DP w b g D):Tu w b g D r (.returned r) w:=⟨rfl,b,h,Turn.refl _ _⟩
def Xy (g:Nat) (D:Dk) (b:List (Option Nat)) (f a:Int) (s:ByteArray) (w:World) (h:DP w b g D) (d:D.ok) (i:D.count<=4000000000000000000) (j:D.waits.length<=1000000000) (p:s.size<=9223372036854775807) :
 Calls Tryz.prog 172 #[.pointer (some ⟨g,0,none⟩),.int .i64 f,.int .i64 a,.string s] w (Tu w b g (D.write f a s) (.int .i64 (D.Ji f a s))):=by
 have R:=Ac (λw1=>Ub f a s.size w1);have l:=Ac h;by_cases c:Jr f a s.size
 ·rw [Un c] at R;have T:=Ac (λw1 (m:DP w1 b g D)=>GR0 g D b ⟨f.toNat,a.toNat,s,false⟩ w1 m d i j ⟨by show f.toNat<2;have:=c.1;have:=c.2.1;omega,by show a.toNat<=_;have:=c.2.2.2.2.1;omega,by show a.toNat+s.size<=_;obtain⟨m,q,r,t,u,v⟩:=c;omega,λh=>by cases h⟩);have E:=Ac (show D.write f a s=D.change ⟨f.toNat,a.toNat,s,false⟩/\D.Ji f a s=D.Dw from⟨AC c,AC c⟩);rw[E.1,E.2];unfold TW at T;simp only at T;rw[show((f.toNat:Nat):Int)=f from OU c.1,show((a.toNat:Nat):Int)=a from OU c.2.2.1]at T;obtain⟨x,n⟩:∃ x,D.Dw=x:=⟨_,rfl⟩;obtain⟨y,k⟩:∃ x,D.change ⟨f.toNat,a.toNat,s,false⟩=x:=⟨_,rfl⟩;rw[n,k]at T ⊢;clear n k d i j h c;go_enter Tryz.func172,Tryz.ntmps172
  go_wp2_with (first |(go_at_call 169;(with_reducible refine(R.out _).mono ?_);rintro e w1 ⟨rfl,rfl⟩) |(go_at_call 214;(with_reducible refine(T.out _ l.out).mono ?_);rintro e w2 ⟨rfl,o⟩))
  go_ret;exact⟨rfl,o⟩
 ·rw [Ll c] at R;have E:=Ac (show D.write f a s=D/\D.Ji f a s=1 from⟨AO c,AO c⟩);rw[E.1,E.2];clear c h;go_enter Tryz.func172,Tryz.ntmps172
  go_wp2_with (go_at_call 169;(with_reducible refine(R.out _).mono ?_);rintro e w1 ⟨rfl,rfl⟩)
  go_ret;exact Tu.refl l
def oZ (g:Nat) (D:Dk) (b:List (Option Nat)) (f a:Int) (w:World) (h:DP w b g D) (d:D.ok) (i:D.count<=4000000000000000000) (j:D.waits.length<=1000000000) :
 Calls Tryz.prog 175 #[.pointer (some ⟨g,0,none⟩),.int .i64 f,.int .i64 a] w (Tu w b g (D.Fp f a) (.int .i64 (D.IM f a))):=by
 have R:=Ac (λw1=>Ub f a 0 w1);have l:=Ac h;by_cases c:Jr f a 0
 ·rw [Un c] at R;have T:=Ac (λw1 (m:DP w1 b g D)=>GR0 g D b ⟨f.toNat,a.toNat,⟨#[]⟩,true⟩ w1 m d i j ⟨by show f.toNat<2;have:=c.1;have:=c.2.1;omega,by show a.toNat<=_;have:=c.2.2.2.2.1;omega,by show a.toNat+0<=_;obtain⟨m,p,q,r,s,t⟩:=c;omega,λ_=>rfl⟩);have E:=Ac (show D.Fp f a=D.change ⟨f.toNat,a.toNat,⟨#[]⟩,true⟩/\D.IM f a=D.Dw from⟨AC c,AC c⟩);rw[E.1,E.2];unfold TW at T;simp only at T;rw[show((f.toNat:Nat):Int)=f from OU c.1,show((a.toNat:Nat):Int)=a from OU c.2.2.1]at T;obtain⟨x,n⟩:∃ x,D.Dw=x:=⟨_,rfl⟩;obtain⟨u,k⟩:∃ x,D.change ⟨f.toNat,a.toNat,⟨#[]⟩,true⟩=x:=⟨_,rfl⟩;rw[n,k]at T ⊢;clear n k d i j h c;go_enter Tryz.func175,Tryz.ntmps175
  go_wp2_with (first |(go_at_call 169;(with_reducible refine(R.out _).mono ?_);rintro e w1 ⟨rfl,rfl⟩) |(go_at_call 214;(with_reducible refine(T.out _ l.out).mono ?_);rintro e w2 ⟨rfl,o⟩))
  go_ret;exact⟨rfl,o⟩
 ·rw [Ll c] at R;have E:=Ac (show D.Fp f a=D/\D.IM f a=1 from⟨AO c,AO c⟩);rw[E.1,E.2];clear c h;go_enter Tryz.func175,Tryz.ntmps175
  go_wp2_with (go_at_call 169;(with_reducible refine(R.out _).mono ?_);rintro e w1 ⟨rfl,rfl⟩)
  go_ret;exact Tu.refl l
end Go.Proofs.YtjihboddejaelaaGreat
