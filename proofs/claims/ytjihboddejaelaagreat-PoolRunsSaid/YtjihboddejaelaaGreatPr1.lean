/-
  Words on memory that every contract here leans on: a block that is known whole, kept over draws, new blocks, stores and calls. No program in sight.
-/
import Derived.Below
import Derived.Laws.Rows
import Derived.Laws.OwnMore
import Derived.Deep.Draws
import Derived.Lib.Hide
import Derived.Deep.Quiet
import Derived.Deep.QuietTactic
import Derived.Deep.AppendSrc
import Derived.WalkKit
import Derived.Laws.CopyRow
import Derived.Test.YtjihboddejaelaaGreatRows
import Derived.WalkSpells
import Derived.WalkLawsBesides
import Derived.BigQuiet
import Derived.Outline
import Derived.LoopTactic
import Derived.Deep.DeepCutAuto
import Derived.Deep.AppendLies
import Derived.Laws.BitsAllLaws
import Derived.Laws.CopyOwn
import Derived.Laws.BytesArg
import Derived.Laws.MakeOwn
import Derived.Deep.RegionLaw
import Derived.IntWalk
import Derived.Laws.IdiomStrings
import Derived.Lib.Strings
import Derived.Lib.BufferWrite
import Derived.Lib.SlBuf
set_option linter.unusedVariables false
set_option linter.unusedSimpArgs false
namespace Go.Proofs.YtjihboddejaelaaGreat
open Go.RowKit
theorem bel_step {B:Nat} {w W w1:World} (h:Below B w W) (hb:Below W.heap.size W w1) (hB:B≤W.heap.size):Below B w w1:=h.trans (hb.mono hB)
theorem bcell {W w1:World} (hb:Below W.heap.size W w1):(∀ b o,b<W.heap.size→w1.cell? ⟨b,o,none⟩=W.cell? ⟨b,o,none⟩)∧(∀ b o,b<W.heap.size→w1.frozen? ⟨b,o,none⟩=W.frozen? ⟨b,o,none⟩) :=
 ⟨fun b o h=>hb.cell (p:=⟨b,o,none⟩) h,fun b o h=>hb.frozen (p:=⟨b,o,none⟩) h⟩
def Has (w:World) (g:Nat) (t:TypeId) (cs:Array Value):Prop:=w.heap[g]? = some (.cells cs t (0,0))
section
variable {w w':World} {g:Nat} {t:TypeId} {cs:Array Value}
theorem Has.lt (h:Has w g t cs):g<w.heap.size:=by
 rcases Nat.lt_or_ge g w.heap.size with h1 | h1
 ·exact h1
 ·exact absurd h (by unfold Has;rw [Array.getElem?_eq_none h1];simp)
theorem Has.cell (h:Has w g t cs) (i:Nat):w.cell? ⟨g,i,none⟩=cs[i]? := cell_of_row w g i cs t (0,0) h
theorem Has.frozen (h:Has w g t cs) (i:Nat):w.frozen? ⟨g,i,none⟩=false:=by
 have h':w.heap[g]? = some (.cells cs t (0,0)):=h
 simp [World.frozen?,h']
theorem Has.new (w:World) (t:TypeId) (cs:Array Value):Has (w.alloc (.cells cs t)) w.heap.size t cs:=by
 show (w.heap.push _)[w.heap.size]? = _
 simp
theorem Has.alloc (h:Has w g t cs) (o:Obj):Has (w.alloc o) g t cs:=(Below.heap_alloc w o g h.lt).trans h
theorem Has.drew (h:Has w g t cs):Has w.drew g t cs:=h
theorem Has.far (h:Has w g t cs) {p:Addr} (hp:g≠p.block) (u:Value):Has (w.setCell p u) g t cs:=(Below.heap_setCell w p u g hp).trans h
theorem Has.set (h:Has w g t cs) (i:Nat) (u:Value):Has (w.setCell ⟨g,i,none⟩ u) g t (cs.setIfInBounds i u):=by
 have h':w.heap[g]? = some (.cells cs t (0,0)):=h
 unfold Has
 simp [World.setCell,Array.getElem?_modify,h']
theorem Has.below {B:Nat} (h:Has w g t cs) (hb:Below B w w') (hg:g<B):Has w' g t cs:=(hb.block g hg).trans h
theorem Has.belowS (h:Has w g t cs) (hb:Below w.heap.size w w'):Has w' g t cs:=h.below hb h.lt
theorem Has.grown (h:Has w g t cs) {row:Option Nat} (hb:w.grownBy w' row) (hg:some g≠row):Has w' g t cs:=(hb.block g h.lt hg).trans h
end
section
variable {w:World} {g g':Nat} {t:TypeId} {a b c x y z:Value} {cs:Array Value}
theorem Has.set3 (h:Has w g t #[a,b,c]):Has (((w.setCell ⟨g,0,none⟩ x).setCell ⟨g,1,none⟩ y).setCell ⟨g,2,none⟩ z) g t #[x,y,z]:=((h.set 0 x).set 1 y).set 2 z
theorem Has.cells3 (h:Has w g t #[a,b,c]):w.cell? ⟨g,0,none⟩=some a∧w.cell? ⟨g,1,none⟩=some b∧w.cell? ⟨g,2,none⟩=some c:=⟨h.cell 0,h.cell 1,h.cell 2⟩
theorem Has.far3 (h:Has w g t cs) (hg:g≠g'):Has (((w.setCell ⟨g',0,none⟩ x).setCell ⟨g',1,none⟩ y).setCell ⟨g',2,none⟩ z) g t cs:=((h.far (p:=⟨g',0,none⟩) hg x).far (p:=⟨g',1,none⟩) hg y).far (p:=⟨g',2,none⟩) hg z
end
def Cls (w0 w':World):Prop:=Below w0.heap.size w0 w'
theorem Cls.refl (w:World):Cls w w:=Below.refl _ _
theorem Cls.start (w:World):Cls w { w with drawn:=w.drawn+1 }:=(Below.refl w.heap.size w).drew
theorem Cls.step {w0 w' w'':World} (h:Cls w0 w') (hb:Below w'.heap.size w' w''):Cls w0 w'':=bel_step h hb h.size
theorem Cls.facts {W w1:World} (h:Cls W w1):(∀ b o,b<W.heap.size→w1.cell? ⟨b,o,none⟩=W.cell? ⟨b,o,none⟩)∧(∀ b o,b<W.heap.size→w1.frozen? ⟨b,o,none⟩=W.frozen? ⟨b,o,none⟩):=bcell h
theorem wp_region_cls {P:Program} {id:Nat} {Q:Exit→Act→World→Prop} {a:Act} {w:World} {l:List Oper} (W:World) (hm:P.follows .mixedOrders=true) (hB:Region.lexB .any l.toArray=true) (hC:Cls W { w with drawn:=w.drawn+1 })
 (h:wpQuiet P l.toArray (Cls W) (fun a'=>∀ w',Cls W w'→Q .normal a' w') l a):(Code.region id l.toArray true).wp P Q a w :=
 wp_region_quiet hm hB hC (by simpa using h)
theorem Cls.bel {W w1:World} (h:Cls W w1):Below W.heap.size W w1:=h
theorem ret_int {k:IntKind} {a b:Int} (h:a=b):Ending.returned (.int k a) = .returned (.int k b):=by rw [h]
theorem ret_bool {a b:Bool} (h:a=b):Ending.returned (.bool a) = .returned (.bool b):=by rw [h]
end Go.Proofs.YtjihboddejaelaaGreat
namespace Go.Proofs.YtjihboddejaelaaGreat
open Go.RowKit
section
variable {P:Program} (w:World)
theorem run_append_src_own (base:Nat) (t tx ty e:TypeId) (i:TypeInfo) (z:Value) (size bytes:Nat) (ht:P.underlying t=some (.slice e)) (hi:P.info? e=some i) (hz:i.zero=some z)
 (hsize:i.size=size) (hby:i.bytes=bytes) (hzs:z.cells.size=size) (hsz:0<size)
 (v:Value) (n:Nat) (xs:List Value) (hown:w.ownsRow base e size v n xs)
 (x:Value) (m:Nat) (news:List Value) (hs:Src P size tx x m news w)
 (h63:n+m≤maxLen) (hbytes:(n+m)*bytes≤140737488355328) (hbase:base≤w.heap.size) :
 ∃ v' w',(Builtin.append_ #[t,tx] ty #[v,x]).run P w = .ok v' w'∧w'.ownsRow base e size v' (n+m) (xs++news)∧w.grownBy w' v.ownBlock ∧
   (v' = .slice none 0 0↔v = .slice none 0 0∧m=0)∧(v'.ownBlock=v.ownBlock∨v'.ownBlock=some w.heap.size):=by
 subst hsize
 subst hby
 have hl:=hs.newsLen
 have hsmall:n+m≤9223372036854775807:=by simp only [maxLen] at h63;omega
 have hlen:(xs++news).length=(n+m)*i.size:=by rw [List.length_append,hown.1,hl,Nat.add_mul]
 have grown:∀ (old:Nat),old<n+m→∀ (row:Option Nat),
  (w.drew.alloc (.cells ((xs++news).toArray++Builtin.zeroCells z.cells (grownCap w (n+m) old e-(n+m))) e)).ownsRow base e i.size
    (.slice (some ⟨w.heap.size,0,none⟩) (n+m) (grownCap w (n+m) old e)) (n+m) (xs++news) ∧
  w.grownBy (w.drew.alloc (.cells ((xs++news).toArray++Builtin.zeroCells z.cells (grownCap w (n+m) old e-(n+m))) e)) row:=by
  intro old ho row
  have hge:=grownCap_ge w (n+m) old e
  have hcm:grownCap w (n+m) old e≤maxLen:=grownCap_le_maxLen w (n+m) old e h63
  refine ⟨⟨hlen,.inr ⟨w.heap.size,_,_,rfl,hbase,heap_alloc_new w.drew _,hge,hcm, ?_, ?_⟩⟩,⟨rfl,rfl,rfl,by simp,fun k hk _=>Below.heap_alloc w.drew _ k hk⟩⟩
  ·rw [Array.size_append,List.size_toArray,size_zeroCells,hzs,hlen,← Nat.add_mul]
   congr 1
   omega
  ·rw [Array.toList_append,← hlen]
   exact List.take_left
 rcases hown.2 with ⟨rfl,rfl⟩ | ⟨g,cap,cur,rfl,hbg,hg,hnc,hcm,hcs,htake⟩
 ·have hx:xs=[]:=List.eq_nil_of_length_eq_zero (by simpa using hown.1)
  subst hx
  by_cases hm:m=0
  ·subst hm
   have hn:news=[]:=List.eq_nil_of_length_eq_zero (by simpa using hl)
   subst hn
   refine ⟨.slice none 0 0,w, ?_,World.ownsRow_nil w base e i.size,⟨rfl,rfl,rfl,Nat.le_refl _,fun _ _ _=>rfl⟩,by simp,Or.inl rfl⟩
   rcases hs.kind with ⟨e',hk⟩ | hk <;> simp [Builtin.append_,run_underlying ht,run_underlying hk,sizeOf,typeInfo,hi,hs.len,hs.cells]
  ·have hr:=run_append_grow_src (P:=P) w t tx ty e i z ht hi hz none 0 0 [] (by simp [Builtin.firstCells]) x m news hs (by omega) (by omega) (growslice_fits (by omega) hbytes)
   have hgr:=grown 0 (by omega) (Value.ownBlock (.slice none 0 0))
   exact ⟨_,_,hr,hgr.1,hgr.2,by simp [hm],Or.inr rfl⟩
 ·by_cases hroom:n+m≤cap
  ·have hfit:n*i.size+news.length≤cur.size:=by rw [hl,hcs,← Nat.add_mul];exact Nat.mul_le_mul_right _ hroom
   have hst:=run_storeCells_at P g (n*i.size) e news 0 cur w hg (by simpa using hfit) hs.one
   simp only [Nat.add_zero] at hst
   have hr:(Builtin.append_ #[t,tx] ty #[.slice (some ⟨g,0,none⟩) n cap,x]).run P w =
    .ok (.slice (some ⟨g,0,none⟩) (n+m) cap) (w.setRow g (cur.toList.take (n*i.size)++news++cur.toList.drop (n*i.size+news.length)).toArray):=by
    rcases hs.kind with ⟨e',hk⟩ | hk <;> simp [Builtin.append_,run_underlying ht,run_underlying hk,sizeOf,typeInfo,hi,hs.len,hroom,hs.cells,Addr.add_lit,hst]
   refine ⟨_,_,hr,⟨hlen,.inr ⟨g,cap,_,rfl,hbg,setRow_heap w g cur _ e _ hg,hroom,hcm, ?_, ?_⟩⟩,⟨rfl,rfl,rfl,by simp,fun k _ hk=>setRow_other w g k _ (fun e=>hk (by simp [Value.ownBlock,e]))⟩,by simp,Or.inl rfl⟩
   ·simp only [List.size_toArray,List.length_append,List.length_take,List.length_drop,Array.length_toList]
    omega
   ·rw [htake,← hlen]
    exact List.take_left
  ·have holds:∀ j u,xs[j]? = some u→w.drew.cell? ((⟨g,0,none⟩:Addr).add j)=some u:=fun j u hj=>by
    have:=hown.cells (g:=g) rfl j u hj
    simpa using this
   have hr:=run_append_grow_src (P:=P) w t tx ty e i z ht hi hz (some ⟨g,0,none⟩) n cap xs (run_firstCells_some w.drew i.size n _ n cap xs hown.1 holds) x m news hs (by omega) (by omega) (growslice_fits (by omega) hbytes)
   have hgr:=grown cap (by omega) (Value.ownBlock (.slice (some ⟨g,0,none⟩) n cap))
   exact ⟨_,_,hr,hgr.1,hgr.2,by simp,Or.inr rfl⟩
theorem wp_append_src {o:Oper} {a:Act} {K:Act→World→Prop} {Q:Exit→Act→World→Prop} (s x:Operand) (t tx:TypeId)
 (ho:o.op = .call { callee:=.builtin .append,args:=#[s,x],argTypes:=#[t,tx] })
 (base:Nat) (e:TypeId) (i:TypeInfo) (z:Value) (size bytes:Nat) (ht:P.underlying t=some (.slice e)) (hi:P.info? e=some i) (hz:i.zero=some z)
 (hsize:i.size=size) (hby:i.bytes=bytes) (hzs:z.cells.size=size) (hsz:0<size)
 (v:Value) (n:Nat) (xs:List Value) (hs:a.eval s=v) (hown:w.ownsRow base e size v n xs)
 (y:Value) (m:Nat) (news:List Value) (hx:a.eval x=y) (hsrc:Src P size tx y m news w)
 (h63:n+m≤maxLen) (hbytes:(n+m)*bytes≤140737488355328) (hbase:base≤w.heap.size)
 (h:∀ v' w',w'.ownsRow base e size v' (n+m) (xs++news)→w.grownBy w' v.ownBlock→(v' = .slice none 0 0↔v = .slice none 0 0∧m=0)→(v'.ownBlock=v.ownBlock∨v'.ownBlock=some w.heap.size)→K (a.put o.dst v') w'):o.wp P a w K Q:=by
 obtain ⟨v',w',hr,h2,h3,h4,h5⟩:=run_append_src_own (P:=P) w base t tx o.type e i z size bytes ht hi hz hsize hby hzs hsz v n xs hown y m news hsrc h63 hbytes hbase
 unfold Oper.wp execOp
 simp only [ho,resolve,invoke,builtin,Sem.run_bind,Sem.run_pure,Result.andThen_ok,List.map_toArray,List.map_cons,List.map_nil,hs,hx,hr]
 exact h v' w' h2 h3 h4 h5
theorem wpList_append_src {ops:Array Oper} {rest:List Oper} {o:Oper} {a:Act} {Q:Exit→Act→World→Prop} (hgd:o.guard=none) (s x:Operand) (t tx:TypeId)
 (ho:o.op = .call { callee:=.builtin .append,args:=#[s,x],argTypes:=#[t,tx] })
 (base:Nat) (e:TypeId) (i:TypeInfo) (z:Value) (size bytes:Nat) (ht:P.underlying t=some (.slice e)) (hi:P.info? e=some i) (hz:i.zero=some z)
 (hsize:i.size=size) (hby:i.bytes=bytes) (hzs:z.cells.size=size) (hsz:0<size)
 (v:Value) (n:Nat) (xs:List Value) (hs:a.eval s=v) (hown:w.ownsRow base e size v n xs)
 (y:Value) (m:Nat) (news:List Value) (hx:a.eval x=y) (hsrc:Src P size tx y m news w)
 (h63:n+m≤maxLen) (hbytes:(n+m)*bytes≤140737488355328) (hbase:base≤w.heap.size)
 (h:∀ v' w',w'.ownsRow base e size v' (n+m) (xs++news)→w.grownBy w' v.ownBlock→(v' = .slice none 0 0↔v = .slice none 0 0∧m=0)→(v'.ownBlock=v.ownBlock∨v'.ownBlock=some w.heap.size)→wpList P ops Q rest (a.put o.dst v') w'):wpList P ops Q (o :: rest) a w :=
 wpList_plain hgd fun _ hK=>wp_append_src w s x t tx ho base e i z size bytes ht hi hz hsize hby hzs hsz v n xs hs hown y m news hx hsrc h63 hbytes hbase fun v' w' h2 h3 h4 h5=>hK _ _ (h v' w' h2 h3 h4 h5)
end
theorem grownBy_trans {w w1 w2:World} {r:Option Nat} (h:w.grownBy w1 r) (k:w1.grownBy w2 r):w.grownBy w2 r :=
 ⟨k.os.trans h.os,k.tape.trans h.tape,k.output.trans h.output,Nat.le_trans h.size k.size,fun i hi hn=>(k.block i (Nat.lt_of_lt_of_le hi h.size) hn).trans (h.block i hi hn)⟩
theorem grownBy_setCell {w:World} (p:Addr) (u:Value):w.grownBy (w.setCell p u) (some p.block) :=
 ⟨rfl,rfl,rfl,by simp [World.setCell],fun k hk hn=>Below.heap_setCell _ _ _ _ (fun e=>hn (by rw [e]))⟩
theorem below_grownBy {w w1:World} {r:Option Nat} (h:Below w.heap.size w w1):w.grownBy w1 r:=⟨h.os,h.tape,h.output,h.size,fun i hi _=>h.block i hi⟩
theorem grownBy_refl (w:World) (r:Option Nat):w.grownBy w r:=⟨rfl,rfl,rfl,Nat.le_refl _,fun _ _ _=>rfl⟩
end Go.Proofs.YtjihboddejaelaaGreat
namespace Go.Proofs.YtjihboddejaelaaGreat
open Go.RowKit
section
variable {P:Program} (w:World)
theorem run_append_full (base:Nat) (t tx ty e:TypeId) (i:TypeInfo) (z:Value) (size bytes:Nat) (ht:P.underlying t=some (.slice e)) (hi:P.info? e=some i) (hz:i.zero=some z)
 (hsize:i.size=size) (hby:i.bytes=bytes) (hzs:z.cells.size=size)
 (g n:Nat) (xs:List Value) (hown:w.ownsRow base e size (.slice (some ⟨g,0,none⟩) n n) n xs)
 (x:Value) (m:Nat) (news:List Value) (hs:Src P size tx x m news w)
 (h63:n+m≤maxLen) (hbytes:(n+m)*bytes≤140737488355328) (hbase:base≤w.heap.size) :
 ∃ v' w',(Builtin.append_ #[t,tx] ty #[.slice (some ⟨g,0,none⟩) n n,x]).run P w = .ok v' w'∧w'.ownsRow base e size v' (n+m) (xs++news)∧Below w.heap.size w w':=by
 subst hsize
 subst hby
 have hl:=hs.newsLen
 have hsmall:n+m≤9223372036854775807:=by simp only [maxLen] at h63;omega
 have hlen:(xs++news).length=(n+m)*i.size:=by rw [List.length_append,hown.1,hl,Nat.add_mul]
 rcases hown.2 with ⟨h,_⟩ | ⟨g',cap,cur,h,hbg,hg,hnc,hcm,hcs,htake⟩
 ·cases h
 ·cases h
  by_cases hm:m=0
  ·subst hm
   have hn:news=[]:=List.eq_nil_of_length_eq_zero (by simpa using hl)
   subst hn
   have hst:=run_storeCells_at P g (n*i.size) e [] 0 cur w hg (by simp [hcs]) hs.one
   simp only [Nat.add_zero] at hst
   have hself:(cur.toList.take (n*i.size)++[]++cur.toList.drop (n*i.size+0)).toArray=cur:=by
    rw [List.append_nil,Nat.add_zero,List.take_append_drop]
   simp only [List.length_nil,hself,setRow_self w g cur e (0,0) hg] at hst
   have hr:(Builtin.append_ #[t,tx] ty #[.slice (some ⟨g,0,none⟩) n n,x]).run P w = .ok (.slice (some ⟨g,0,none⟩) (n+0) n) w:=by
    rcases hs.kind with ⟨e',hk⟩ | hk <;> simp [Builtin.append_,run_underlying ht,run_underlying hk,sizeOf,typeInfo,hi,hs.len,hs.cells,Addr.add_lit,hst]
   exact ⟨_,_,hr,by simpa using hown,Below.refl _ _⟩
  ·have hge:=grownCap_ge w (n+m) n e
   have hcm':grownCap w (n+m) n e≤maxLen:=grownCap_le_maxLen w (n+m) n e h63
   have holds:∀ j u,xs[j]? = some u→w.drew.cell? ((⟨g,0,none⟩:Addr).add j)=some u:=fun j u hj=>by
    have:=hown.cells (g:=g) rfl j u hj
    simpa using this
   have hr:=run_append_grow_src (P:=P) w t tx ty e i z ht hi hz (some ⟨g,0,none⟩) n n xs (run_firstCells_some w.drew i.size n _ n n xs hown.1 holds) x m news hs (by omega) (by omega) (growslice_fits (by omega) hbytes)
   refine ⟨_,_,hr,⟨hlen,.inr ⟨w.heap.size,_,_,rfl,hbase,heap_alloc_new w.drew _,hge,hcm', ?_, ?_⟩⟩,(Below.refl _ _).drew.alloc (Nat.le_refl _) _⟩
   ·rw [Array.size_append,List.size_toArray,size_zeroCells,hzs,hlen,← Nat.add_mul]
    congr 1
    omega
   ·rw [Array.toList_append,← hlen]
    exact List.take_left
end
end Go.Proofs.YtjihboddejaelaaGreat
namespace Go.Proofs.YtjihboddejaelaaGreat
open Go.RowKit
open Go.BigFrame
theorem byte_lt (b:UInt8):b.toNat<256:=by have:=b.toNat_lt;omega
theorem zeroByte1:(Value.int .u8 0).cells.size=1:=by kernel_rfl
theorem infoByte:(Tryz.prog.info? 5).map (fun i=>(i.zero,i.size,i.bytes))=some (some (.int .u8 0),1,1):=by kernel_rfl
def beK:Nat→Nat→List UInt8
 | _,0=>[]
 | n,k+1=>beK (n / 256) k++[UInt8.ofNat n]
theorem beK_len:∀ (k n:Nat),(beK n k).length=k
 | 0,_=>rfl
 | k+1,n=>by simp [beK,beK_len k]
theorem beK_two (n:Nat):beK n 2=[UInt8.ofNat (n / 256),UInt8.ofNat n]:=rfl
theorem beK_four (n:Nat):beK n 4=beK (n / 65536) 2++beK n 2:=by
 have e1:n / 256 / 256=n / 65536:=by omega
 have e2:n / 256 / 256 / 256=n / 65536 / 256:=by omega
 simp only [beK_two,beK,List.nil_append,List.append_assoc,List.cons_append,e2,e1]
def u8v (b:UInt8):Value:=.int .u8 (b.toNat:Nat)
def u8s (l:List UInt8):List Value:=l.map u8v
theorem u8s_append (a b:List UInt8):u8s (a++b)=u8s a++u8s b:=by simp [u8s]
theorem u8s_len (l:List UInt8):(u8s l).length=l.length:=by simp [u8s]
theorem u8s_one {l:List UInt8}:∀ v∈u8s l,v.oneCell'=true:=fun v hv=>by
 obtain ⟨b,_,rfl⟩:=List.mem_map.1 hv;rfl
theorem u8s_get (l:List UInt8) (j:Nat):(u8s l)[j]? = (l[j]?).map u8v:=by simp [u8s]
theorem toNat_ofNat8 (n:Nat):((UInt8.ofNat n).toNat:Int)=(n:Int) % 256:=by
 rw [UInt8.toNat_ofNat'];omega
def BS (w:World) (A:Option Addr) (n:Nat) (l:List UInt8):Prop :=
 l.length=n∧(0<n→∃ b off,A=some ⟨b,off,none⟩∧b<w.heap.size∧∀ i v,l[i]? = some v→w.cell? ⟨b,off+i,none⟩=some (u8v v))
section
variable {w w':World} {A:Option Addr} {n:Nat} {l:List UInt8}
theorem BS.keep (h:BS w A n l) (hb:Below w.heap.size w w'):BS w' A n l :=
 ⟨h.1,fun hn=>by
   obtain ⟨b,off,hA,hl,hc⟩:=h.2 hn
   exact ⟨b,off,hA,Nat.lt_of_lt_of_le hl hb.size,fun i v hv=>(hb.cell (p:=⟨b,off+i,none⟩) hl).trans (hc i v hv)⟩⟩
theorem BS.of_has {g:Nat} {t:TypeId} (h:Has w g t (u8s l).toArray):BS w (some ⟨g,0,none⟩) l.length l :=
 ⟨rfl,fun _=>⟨g,0,rfl,h.lt,fun i v hv=>by rw [Nat.zero_add,h.cell];simp [u8s_get,hv]⟩⟩
theorem addr_add (b off j:Nat):(⟨b,off,none⟩:Addr).add j=⟨b,off+j,none⟩:=by unfold Addr.add;split <;> simp_all
theorem BS.src {c:Nat} (h:BS w A n l) {e' tx:TypeId} {P:Program} (hk:P.underlying tx=some (.slice e')):Src P 1 tx (.slice A n c) n (u8s l) w:=by
 rcases Nat.eq_zero_or_pos n with rfl | hn
 ·have hv:l=[]:=List.eq_nil_of_length_eq_zero h.1
  subst hv
  cases A with
  | none=>exact Src.ofNil w hk c
  | some a=>exact Src.ofSlice w hk a 0 c [] rfl (fun j u hu=>by simp at hu) (fun u hu=>by simp at hu)
 ·obtain ⟨b,off,rfl,hb,hc⟩:=h.2 hn
  exact Src.ofSlice w hk _ n c _ (by simp [u8s,h.1]) (fun j u hu=>by
   rw [addr_add]
   rw [u8s_get] at hu
   obtain ⟨v,hv,rfl⟩:=Option.map_eq_some_iff.1 hu
   exact hc j v hv) u8s_one
theorem BS.of_own {base:Nat} {e:TypeId} {v:Value} (h:w.ownsRow base e 1 v n (u8s l)):∃ A c,v = .slice A n c∧n≤c∧BS w A n l:=by
 have hl:l.length=n:=by have:=h.1;simp [u8s] at this;exact this
 rcases h.2 with ⟨rfl,h0⟩ | ⟨g,cap,cur,rfl,hb,hgg,hnc,_⟩
 ·subst h0
  exact ⟨none,0,rfl,Nat.le_refl _,hl,fun h=>absurd h (by omega)⟩
 ·refine ⟨_,_,rfl,hnc,hl,fun _=>⟨g,0,rfl,(Array.getElem?_eq_some_iff.1 hgg).1,fun i u hu=>?_⟩⟩
  have:=h.cells (g:=g) rfl i (u8v u) (by rw [u8s_get,hu];rfl)
  rw [addr_add] at this;exact this
end
def BytesPost (w:World) (l:List UInt8) (e:Ending) (w':World):Prop:=∃ A c,e = .returned (.slice A l.length c)∧BS w' A l.length l∧Below w.heap.size w w'
theorem wpList_append_full {P:Program} {w:World} {ops:Array Oper} {rest:List Oper} {o:Oper} {a:Act} {Q:Exit→Act→World→Prop} (hgd:o.guard=none) (s x:Operand) (t tx:TypeId)
 (ho:o.op = .call { callee:=.builtin .append,args:=#[s,x],argTypes:=#[t,tx] })
 (base:Nat) (e:TypeId) (i:TypeInfo) (z:Value) (size bytes:Nat) (ht:P.underlying t=some (.slice e)) (hi:P.info? e=some i) (hz:i.zero=some z)
 (hsize:i.size=size) (hby:i.bytes=bytes) (hzs:z.cells.size=size)
 (g n:Nat) (xs:List Value) (hs:a.eval s = .slice (some ⟨g,0,none⟩) n n) (hown:w.ownsRow base e size (.slice (some ⟨g,0,none⟩) n n) n xs)
 (y:Value) (m:Nat) (news:List Value) (hx:a.eval x=y) (hsrc:Src P size tx y m news w)
 (h63:n+m≤maxLen) (hbytes:(n+m)*bytes≤140737488355328) (hbase:base≤w.heap.size)
 (h:∀ A c w',w'.ownsRow base e size (.slice A (n+m) c) (n+m) (xs++news)→Below w.heap.size w w'→wpList P ops Q rest (a.put o.dst (.slice A (n+m) c)) w'):wpList P ops Q (o :: rest) a w:=by
 refine wpList_plain hgd fun K hK=>?_
 obtain ⟨v',w',hr,h2,h3⟩:=run_append_full (P:=P) w base t tx o.type e i z size bytes ht hi hz hsize hby hzs g n xs hown y m news hsrc h63 hbytes hbase
 obtain ⟨A,c,rfl⟩:∃ A c,v' = .slice A (n+m) c:=by
  rcases h2.2 with ⟨hv,h0⟩ | ⟨g,cap,cur,hv,_⟩
  ·exact ⟨none,0,by rw [hv,h0]⟩
  ·exact ⟨_,_,hv⟩
 unfold Oper.wp execOp
 simp only [ho,resolve,invoke,builtin,Sem.run_bind,Sem.run_pure,Result.andThen_ok,List.map_toArray,List.map_cons,List.map_nil,hs,hx,hr]
 exact hK _ _ (h A c w' h2 h3)
theorem Has.own {w:World} {g:Nat} {t:TypeId} {l:List Value} {B n:Nat} (h:Has w g t l.toArray) (hB:B≤g) (hn:l.length=n) (hm:n≤maxLen):w.ownsRow B t 1 (.slice (some ⟨g,0,none⟩) n n) n l :=
 ⟨by omega,.inr ⟨g,n,l.toArray,rfl,hB,h,Nat.le_refl _,hm,by simp [hn],by simp [← hn]⟩⟩
def bsOf (l:List UInt8):ByteArray:=⟨l.toArray⟩
theorem bsOf_data (l:List UInt8):(bsOf l).data.toList=l:=by simp [bsOf]
theorem bsOf_size (l:List UInt8):(bsOf l).size=l.length:=by simp [bsOf,ByteArray.size]
theorem bsOf_append (a b:List UInt8):bsOf a++bsOf b=bsOf (a++b):=ByteArray.mk_append_mk _ _
theorem bsOf_of (s:ByteArray):bsOf s.data.toList=s:=by simp [bsOf]
theorem beK_step (n k:Nat) (l:List UInt8):beK n (k+1)++l=beK (n / 256) k++(UInt8.ofNat n :: l):=by simp [beK]
theorem strOfNums_bs (l:List UInt8):strOfNums (l.map fun b=>(b.toNat:Int))=bsOf l:=by
 unfold strOfNums bsOf
 rw [List.map_map]
 congr 2
 rw [show ((fun n:Int=>UInt8.ofNat n.toNat) ∘ fun b:UInt8=>(b.toNat:Int))=id by funext b;simp]
 simp
theorem conv_BS {w:World} {A:Option Addr} {n c:Nat} {l:List UInt8} (h:BS w A n l):(convert 39 9 (.slice A n c)).run Tryz.prog w = .ok (.string (bsOf l)) w:=by
 rcases Nat.eq_zero_or_pos n with rfl | hn
 ·have hv:l=[]:=List.eq_nil_of_length_eq_zero h.1
  subst hv
  cases A with
  | none=>exact run_convert_bytes_nil w _ _ Tryz.underlying39 Tryz.underlying5 0 c _ Tryz.underlying9
  | some a =>
    have hl:(loadCells a 0).run Tryz.prog w = .ok (([]:List Int).map (Value.int .u8)).toArray w:=by
     have:=run_loadCells_list (P:=Tryz.prog) w a [] (fun j v hj=>by simp at hj)
     simpa using this
    rw [run_convert_bytes_string w _ _ _ _ 0 c Tryz.underlying39 Tryz.underlying5 Tryz.underlying9,run_bytesToString w a 0 c [] hl]
    rfl
 ·obtain ⟨b,off,rfl,hb,hc⟩:=h.2 hn
  have:=run_convert_bytes_arg (P:=Tryz.prog) w 39 5 Tryz.underlying39 Tryz.underlying5 b off n c (l.map fun b=>(b.toNat:Int)) (by simpa using h.1) (fun i hi=>by
   have hl:i<l.length:=by rw [h.1];exact hi
   rw [hc i l[i] (by simp [hl])]
   simp [u8v,hl]) _ Tryz.underlying9
  rw [strOfNums_bs] at this
  exact this
set_option maxRecDepth 100000 in
set_option maxHeartbeats 1600000 in
theorem ref_bytes (n k:Nat) (hn:n<18446744073709551616) (hk:k≤1000) (w:World):Calls Tryz.prog 149 #[.int .u64 n,.int .i64 k] w fun e w'=>e = .returned (.string (bsOf (beK n k)))∧Below w.heap.size w w':=by
 go_enter Tryz.func149,Tryz.ntmps149
 go_wp2_with fail
 go_loopw [0,1,5] (fun v0 v1 v5 wr=>∃ (n' k':Nat) (l:List UInt8),v0 = .int .u64 n'∧v1 = .int .i64 k'∧v5 = .string (bsOf l)∧beK n k=beK n' k'++l∧n'<18446744073709551616∧l.length+k'=k∧Below w.heap.size w wr) (fun _ v1 _ _=>(intOf v1).toNat)
 case atStart=>exact ⟨n,k,[],rfl,rfl,rfl,by simp,hn,by simp,Below.refl _ _⟩
 case round =>
  obtain ⟨n',k',l,rfl,rfl,rfl,he,hn',hl,hbel⟩:=hrel
  have HE:=Lib.hid he;clear he
  have HL:=Lib.hid hl;clear hl
  cases k' with
  | zero =>
    have E:=Lib.hid (show bsOf l=bsOf (beK n k) by rw [HE.out];rfl)
    go_wp2_with fail
    go_ret
    exact ⟨by rw [← E.out];rfl,hbel⟩
  | succ j =>
    have ST:=Lib.hid (HE.out.trans (beK_step n' j l))
    have hcat:bsOf [UInt8.ofNat n']++bsOf l=bsOf (UInt8.ofNat n' :: l):=by rw [bsOf_append];rfl
    have hs1:(bsOf [UInt8.ofNat n']).size=1:=by rw [bsOf_size];rfl
    have hs2:(bsOf l).size≤1000:=by rw [bsOf_size];have:=HL.out;omega
    have hcv:=conv_BS (c:=1) (BS.of_has (Has.new wr 5 (u8s [UInt8.ofNat n']).toArray))
    rw [show (u8s [UInt8.ofNat n']).toArray = #[.int .u8 ((n':Int) % 256)] by simp only [u8s,u8v,List.map_cons,List.map_nil,toNat_ofNat8]] at hcv
    have hcv2:(convert 39 9 (.slice (some ⟨wr.heap.size,0,none⟩) 1 1)).run Tryz.prog (wr.alloc (.cells #[.int .u8 ((n':Int) % 256)] 5)) = .ok (.string (bsOf [UInt8.ofNat n'])) (wr.alloc (.cells #[.int .u8 ((n':Int) % 256)] 5)):=hcv
    clear hcv
    have k1:((j+1:Nat):Int)=(j:Int)+1:=by omega
    have k2:j≤1000:=by have:=HL.out;omega
    go_wp2_with fail
    go_roundw
    case rel=>exact ⟨n' / 256,j,_,by simp,by simp,rfl,ST.out,by omega,by have:=HL.out;simp;omega,hbel.alloc hbel.size _⟩
    case measure=>simp [intOf]
def unK (l:List UInt8):Nat:=l.foldl (fun n b=>256*n+b.toNat) 0
theorem unK_snoc (l:List UInt8) (b:UInt8):unK (l++[b])=256*unK l+b.toNat:=by simp [unK]
theorem unK_lt:∀ (k:Nat) (l:List UInt8),l.length=k→unK l<256 ^ k
 | 0,l,h=>by rw [List.eq_nil_of_length_eq_zero h];decide
 | k+1,l,h=>by
   rcases List.eq_nil_or_concat l with rfl | ⟨m,b,rfl⟩
   ·simp at h
   ·have h2:m.length=k:=by simpa using h
    have:=unK_lt k m h2
    have hb:=byte_lt b
    rw [List.concat_eq_append,unK_snoc,Nat.pow_succ]
    omega
set_option maxRecDepth 100000 in
set_option maxHeartbeats 1600000 in
theorem ref_unbytes (s:ByteArray) (hs:s.size≤7) (w:World):Calls Tryz.prog 148 #[.string s] w fun e w'=>e = .returned (.int .u64 (unK s.data.toList:Nat))∧w=w':=by
 go_enter Tryz.func148,Tryz.ntmps148
 go_wp2_with fail
 go_loop [3,4] (fun v3 v4=>∃ i:Nat,i≤s.size∧v4 = .int .i64 i∧v3 = .int .u64 (unK (s.data.toList.take i):Nat)) (fun _ v4=>s.size-(intOf v4).toNat)
 case atStart=>exact ⟨0,Nat.zero_le _,rfl,rfl⟩
 case round =>
  obtain ⟨i,hi,rfl,rfl⟩:=hrel
  by_cases h1:i<s.size
  ·have hlt:=unK_lt i (s.data.toList.take i) (by rw [List.length_take];simp;omega)
   have hle:256 ^ i≤256 ^ 6:=Nat.pow_le_pow_right (by omega) (by omega)
   have h6:(256:Nat) ^ 6=281474976710656:=by decide
   rw [h6] at hle
   have E:=Lib.hid (show unK (s.data.toList.take (i+1))=256*unK (s.data.toList.take i)+s[i].toNat by rw [List.take_succ_eq_append_getElem (by simpa using h1),unK_snoc];rfl)
   have hx:unK (s.data.toList.take i)<281474976710656:=by omega
   clear hlt hle h6
   have hbt:=byte_lt s[i]
   obtain ⟨x,hxx⟩:∃ x,unK (s.data.toList.take i)=x:=⟨_,rfl⟩
   rw [hxx] at hx
   have HXX:=Lib.hid hxx
   rw [hxx]
   clear hxx
   go_wp2_with fail
   go_round
   case rel=>exact ⟨i+1,by omega,by simp,by rw [E.out,HXX.out];simp⟩
   case measure=>simp [intOf];omega
  ·obtain rfl:i=s.size:=by omega
   have E:=Lib.hid (show (unK (s.data.toList.take s.size):Int)=(unK s.data.toList:Nat) by rw [List.take_of_length_le (by simp)])
   go_wp2_with fail
   go_ret
   exact ⟨ret_int E.out,rfl⟩
end Go.Proofs.YtjihboddejaelaaGreat
namespace Go.Proofs.YtjihboddejaelaaGreat
open Go.RowKit
open Go.BigFrame
set_option maxHeartbeats 400000 in
theorem ref_in (a b c:Int) (w:World):Calls Tryz.prog 63 #[.int .i64 a,.int .i64 b,.int .i64 c] w fun e w'=>e = .returned (.bool (decide (b≤a) && decide (a≤c)))∧w=w':=by
 by_cases h:b≤a
 ·by_cases h':a≤c
  ·go_enter Tryz.func63,Tryz.ntmps63
   go_wp2
   go_ret
   exact ⟨ret_bool (by simp [h,h']),rfl⟩
  ·go_enter Tryz.func63,Tryz.ntmps63
   go_wp2
   go_ret
   exact ⟨ret_bool (by simp [h,h'];try omega),rfl⟩
 ·go_enter Tryz.func63,Tryz.ntmps63
  go_wp2
  go_ret
  exact ⟨ret_bool (by simp [h];try omega),rfl⟩
end Go.Proofs.YtjihboddejaelaaGreat
namespace Go.Proofs.YtjihboddejaelaaGreat
open Go.RowKit
structure Ch where
 file:Nat
 at_:Nat
 text:ByteArray
 cut:Bool
def zerosTo (l:List UInt8) (n:Nat):List UInt8:=l++List.replicate (n-l.length) 0
def putL (l:List UInt8) (a:Nat) (t:List UInt8):List UInt8:=(zerosTo l (a+t.length)).take a++t++(zerosTo l (a+t.length)).drop (a+t.length)
def Ch.done (c:Ch) (l:List UInt8):List UInt8:=if c.cut then (zerosTo l c.at_).take c.at_ else putL l c.at_ c.text.data.toList
theorem zerosTo_len (l:List UInt8) (n:Nat):(zerosTo l n).length=max l.length n:=by
 unfold zerosTo;rw [List.length_append,List.length_replicate];omega
theorem zerosTo_big {l:List UInt8} {n:Nat} (h:n≤l.length):zerosTo l n=l:=by
 unfold zerosTo;rw [show n-l.length=0 by omega];simp
theorem zerosTo_step {l:List UInt8} {n m:Nat} (h:l.length≤m) (h2:m<n):zerosTo l m++[0]=zerosTo l (m+1):=by
 unfold zerosTo
 rw [List.append_assoc,show m+1-l.length=(m-l.length)+1 by omega,List.replicate_succ']
theorem putL_len (l:List UInt8) (a:Nat) (t:List UInt8):(putL l a t).length=max l.length (a+t.length):=by
 unfold putL
 rw [List.length_append,List.length_append,List.length_take,List.length_drop,zerosTo_len];omega
theorem done_len (c:Ch) (l:List UInt8):(c.done l).length≤max l.length (c.at_+c.text.size):=by
 unfold Ch.done
 split
 ·rw [List.length_take,zerosTo_len];omega
 ·rw [putL_len,Array.length_toList];exact Nat.le_refl _
def Ch.fits (c:Ch):Prop:=c.file<2∧c.at_≤67108864∧c.at_+c.text.size≤67108864∧(c.cut=true→c.text.size=0)
theorem done_fits {c:Ch} {l:List UInt8} (h:c.fits) (hl:l.length≤67108864):(c.done l).length≤67108864:=by
 have:=done_len c l
 have:=h.2.2.1
 omega
def seenL:List Ch→Nat→List UInt8→List UInt8
 | [],_,l=>l
 | c :: ws,f,l=>seenL ws f (if c.file=f then c.done l else l)
theorem seenL_append:∀ (ws us:List Ch) (f:Nat) (l:List UInt8),seenL (ws++us) f l=seenL us f (seenL ws f l)
 | [],us,f,l=>rfl
 | c :: ws,us,f,l=>by rw [List.cons_append,seenL,seenL_append ws us];rfl
theorem seenL_snoc (ws:List Ch) (c:Ch) (f:Nat) (l:List UInt8):seenL (ws++[c]) f l=if c.file=f then c.done (seenL ws f l) else seenL ws f l:=by
 rw [seenL_append];rfl
theorem seenL_fits:∀ (ws:List Ch) (f:Nat) (l:List UInt8),(∀ c∈ws,c.fits)→l.length≤67108864→(seenL ws f l).length≤67108864
 | [],f,l,_,hl=>hl
 | c :: ws,f,l,h,hl=>by
   rw [seenL]
   refine seenL_fits ws f _ (fun d hd=>h d (List.mem_cons_of_mem _ hd)) ?_
   split
   ·exact done_fits (h c (List.mem_cons_self ..)) hl
   ·exact hl
theorem seenL_filter:∀ (ws:List Ch) (f k:Nat) (l:List UInt8),f≠k→seenL (ws.filter (fun c=>decide (c.file≠k))) f l=seenL ws f l
 | [],f,k,l,_=>rfl
 | c :: ws,f,k,l,h=>by
   by_cases hc:c.file=k
   ·rw [List.filter_cons_of_neg (by simp [hc]),seenL_filter ws f k l h,seenL,if_neg (by rw [hc];exact fun e=>h e.symm)]
   ·rw [List.filter_cons_of_pos (by simp [hc]),seenL,seenL,seenL_filter ws f k _ h]
theorem seenL_filter_same:∀ (ws:List Ch) (f:Nat) (l:List UInt8),seenL (ws.filter (fun c=>decide (c.file≠f))) f l=l
 | [],f,l=>rfl
 | c :: ws,f,l=>by
   by_cases hc:c.file=f
   ·rw [List.filter_cons_of_neg (by simp [hc]),seenL_filter_same ws f l]
   ·rw [List.filter_cons_of_pos (by simp [hc]),seenL,if_neg hc,seenL_filter_same ws f l]
structure Dk where
 l0:List UInt8
 l1:List UInt8
 waits:List Ch
 fails:Int
 down:Bool
 count:Nat
def Dk.lasts (D:Dk) (f:Nat):List UInt8:=if f=0 then D.l0 else D.l1
def Dk.seen (D:Dk) (f:Nat):List UInt8:=seenL D.waits f (D.lasts f)
structure Dk.ok (D:Dk):Prop where
 l0:D.l0.length≤67108864
 l1:D.l1.length≤67108864
 waits:∀ c∈D.waits,c.fits
 fails : -1≤D.fails∧D.fails≤9223372036854775807
theorem Dk.ok.lasts {D:Dk} (h:D.ok) (f:Nat):(D.lasts f).length≤67108864:=by
 unfold Dk.lasts;split
 ·exact h.l0
 ·exact h.l1
theorem Dk.ok.seen {D:Dk} (h:D.ok) (f:Nat):(D.seen f).length≤67108864:=seenL_fits _ _ _ h.waits (h.lasts f)
def Dk.stops (D:Dk):Prop:=D.down=true∨D.fails=0
instance (D:Dk):Decidable D.stops:=by unfold Dk.stops;infer_instance
def Dk.turn (D:Dk):Dk:=if D.stops then { D with down:=true } else { D with fails:=if 0<D.fails then D.fails-1 else D.fails,count:=D.count+1 }
def Dk.turnE (D:Dk):Int:=if D.stops then 2 else 0
theorem Dk.turn_ok {D:Dk} (h:D.ok):D.turn.ok:=by
 obtain ⟨h1,h2,h3,h4,h5⟩:=h
 unfold Dk.turn
 split
 ·exact ⟨h1,h2,h3,h4,h5⟩
 ·refine ⟨h1,h2,h3, ?_⟩
  show -1≤(if 0<D.fails then D.fails-1 else D.fails)∧(if 0<D.fails then D.fails-1 else D.fails)≤9223372036854775807
  split <;> omega
def Dk.change (D:Dk) (c:Ch):Dk:=if D.stops then D.turn else { D.turn with waits:=D.waits++[c] }
theorem Dk.change_ok {D:Dk} {c:Ch} (h:D.ok) (hc:c.fits):(D.change c).ok:=by
 unfold Dk.change
 split
 ·exact Dk.turn_ok h
 ·have ht:=Dk.turn_ok h
  exact ⟨ht.l0,ht.l1,fun d hd=>by
   rcases List.mem_append.1 hd with hd | hd
   ·exact h.waits d hd
   ·rw [List.mem_singleton.1 hd];exact hc,ht.fails⟩
def fitsF (f a n:Int):Prop:=0≤f∧f<2∧0≤a∧0≤n∧a≤67108864∧n≤67108864-a
instance (f a n:Int):Decidable (fitsF f a n):=by unfold fitsF;infer_instance
def Dk.write (D:Dk) (f a:Int) (s:ByteArray):Dk:=if fitsF f a s.size then D.change ⟨f.toNat,a.toNat,s,false⟩ else D
def Dk.writeE (D:Dk) (f a:Int) (s:ByteArray):Int:=if fitsF f a s.size then D.turnE else 1
def Dk.cutD (D:Dk) (f a:Int):Dk:=if fitsF f a 0 then D.change ⟨f.toNat,a.toNat,⟨#[]⟩,true⟩ else D
def Dk.cutE (D:Dk) (f a:Int):Int:=if fitsF f a 0 then D.turnE else 1
def Dk.syncT (D:Dk) (f:Nat):Dk:={ D.turn with l0:=if f=0 then D.seen 0 else D.l0,l1:=if f=0 then D.l1 else D.seen 1,waits:=D.waits.filter (fun c=>decide (c.file≠f)) }
def Dk.sync (D:Dk) (f:Int):Dk:=if 0≤f∧f<2 then (if D.stops then D.turn else D.syncT f.toNat) else D
def Dk.syncE (D:Dk) (f:Int):Int:=if 0≤f∧f<2 then D.turnE else 1
def Dk.readS (D:Dk) (f a n:Int):ByteArray:=if fitsF f a n∧D.down=false∧a+n≤(D.seen f.toNat).length then bsOf (((D.seen f.toNat).drop a.toNat).take n.toNat) else ⟨#[]⟩
def Dk.readE (D:Dk) (f a n:Int):Int:=if fitsF f a n then (if D.down=true then 2 else if a+n≤(D.seen f.toNat).length then 0 else 3) else 1
def Dk.sizeN (D:Dk) (f:Int):Int:=if 0≤f∧f<2∧D.down=false then (D.seen f.toNat).length else 0
def Dk.sizeE (D:Dk) (f:Int):Int:=if 0≤f∧f<2 then (if D.down=true then 2 else 0) else 1
def Dk.fail (D:Dk) (n:Int):Dk:={ D with fails:=if n<0 then -1 else n }
def howL (keep:List Int) (i:Nat):Int:=if keep.length=0 then 0 else keep.getD (i % keep.length) 0
def Ch.half (c:Ch):Ch:=if c.cut then c else { c with text:=c.text.extract 0 (c.text.size / 2) }
def crash1 (c:Ch) (how:Int) (l:List UInt8) (f:Nat):List UInt8:=if c.file=f then (if how=1 then c.done l else if how=2 then c.half.done l else l) else l
def crashL (keep:List Int):List Ch→Nat→Nat→List UInt8→List UInt8
 | [],_,_,l=>l
 | c :: ws,i,f,l=>crashL keep ws (i+1) f (crash1 c (howL keep i) l f)
def Dk.crash (D:Dk) (keep:List Int):Dk:=⟨crashL keep D.waits 0 0 D.l0,crashL keep D.waits 0 1 D.l1,[], -1,false,D.count⟩
theorem crashL_append (keep:List Int):∀ (ws us:List Ch) (i f:Nat) (l:List UInt8),crashL keep (ws++us) i f l=crashL keep us (i+ws.length) f (crashL keep ws i f l)
 | [],us,i,f,l=>by simp [crashL]
 | c :: ws,us,i,f,l=>by
   rw [List.cons_append,crashL,crashL_append keep ws us,crashL,List.length_cons]
   congr 1;omega
theorem half_fits {c:Ch} (h:c.fits):c.half.fits:=by
 unfold Ch.half
 split
 ·exact h
 ·rename_i hc
  refine ⟨h.1,h.2.1, ?_,fun h2=>absurd h2 hc⟩
  have:=h.2.2.1
  show c.at_+(c.text.extract 0 (c.text.size / 2)).size≤_
  rw [ByteArray.size_extract];omega
theorem crash1_fits {c:Ch} {how:Int} {l:List UInt8} {f:Nat} (h:c.fits) (hl:l.length≤67108864):(crash1 c how l f).length≤67108864:=by
 unfold crash1
 split
 ·split
  ·exact done_fits h hl
  ·split
   ·exact done_fits (half_fits h) hl
   ·exact hl
 ·exact hl
theorem crashL_fits (keep:List Int):∀ (ws:List Ch) (i f:Nat) (l:List UInt8),(∀ c∈ws,c.fits)→l.length≤67108864→(crashL keep ws i f l).length≤67108864
 | [],_,_,_,_,hl=>hl
 | c :: ws,i,f,l,h,hl=>crashL_fits keep ws _ f _ (fun d hd=>h d (List.mem_cons_of_mem _ hd)) (crash1_fits (h c (List.mem_cons_self ..)) hl)
theorem Dk.crash_ok {D:Dk} (h:D.ok) (keep:List Int):(D.crash keep).ok :=
 ⟨crashL_fits _ _ _ _ _ h.waits h.l0,crashL_fits _ _ _ _ _ h.waits h.l1,(fun c hc=>by cases hc),by show -1≤(-1:Int)∧(-1:Int)≤9223372036854775807;omega⟩
theorem Dk.fail_ok {D:Dk} (h:D.ok) {n:Int} (hn:n≤9223372036854775807):(D.fail n).ok :=
 ⟨h.l0,h.l1,h.waits,by show -1≤(if n<0 then -1 else n)∧(if n<0 then -1 else n)≤9223372036854775807;split <;> omega⟩
theorem Dk.sync_ok {D:Dk} (h:D.ok) (f:Int):(D.sync f).ok:=by
 unfold Dk.sync
 split
 ·split
  ·exact Dk.turn_ok h
  ·have ht:=Dk.turn_ok h
   refine ⟨?_, ?_,fun c hc=>h.waits c (List.mem_filter.1 hc).1,ht.fails⟩
   ·show (if f.toNat=0 then D.seen 0 else D.l0).length≤_
    split
    ·exact h.seen 0
    ·exact h.l0
   ·show (if f.toNat=0 then D.l1 else D.seen 1).length≤_
    split
    ·exact h.l1
    ·exact h.seen 1
 ·exact h
theorem Dk.write_ok {D:Dk} (h:D.ok) (f a:Int) (s:ByteArray):(D.write f a s).ok:=by
 unfold Dk.write
 split
 ·rename_i hf
  obtain ⟨h1,h2,h3,h4,h5,h6⟩:=hf
  exact Dk.change_ok h ⟨by show f.toNat<2;omega,by show a.toNat≤_;omega,by show a.toNat+s.size≤_;omega,fun h=>by cases h⟩
 ·exact h
theorem Dk.cut_ok {D:Dk} (h:D.ok) (f a:Int):(D.cutD f a).ok:=by
 unfold Dk.cutD
 split
 ·rename_i hf
  obtain ⟨h1,h2,h3,h4,h5,h6⟩:=hf
  exact Dk.change_ok h ⟨by show f.toNat<2;omega,by show a.toNat≤_;omega,by show a.toNat+0≤_;omega,fun _=>rfl⟩
 ·exact h
theorem Dk.syncT_seen (D:Dk) (f k:Nat) (hf:f<2) (hk:k<2):(D.syncT f).seen k=D.seen k:=by
 unfold Dk.syncT Dk.seen Dk.lasts
 simp only
 by_cases h:k=f
 ·subst h
  rw [seenL_filter_same]
  rcases (show k=0∨k=1 by omega) with rfl | rfl <;> rfl
 ·rw [seenL_filter _ _ _ _ h]
  rcases (show k=0∧f=1∨k=1∧f=0 by omega) with ⟨rfl,rfl⟩ | ⟨rfl,rfl⟩ <;> rfl
theorem Dk.turn_seen (D:Dk) (k:Nat):D.turn.seen k=D.seen k:=by
 unfold Dk.turn;split <;> rfl
theorem Dk.change_seen (D:Dk) (c:Ch) (h:¬ D.stops) (k:Nat):(D.change c).seen k=if c.file=k then c.done (D.seen k) else D.seen k:=by
 unfold Dk.change
 rw [if_neg h]
 show seenL (D.waits++[c]) k (D.turn.lasts k)=_
 rw [seenL_snoc]
 have:D.turn.lasts k=D.lasts k:=by unfold Dk.turn;split <;> rfl
 rw [this];rfl
end Go.Proofs.YtjihboddejaelaaGreat
namespace Go.Proofs.YtjihboddejaelaaGreat
open Go.RowKit
structure Row where
 v:Value
 e:TypeId
 size:Nat
 n:Nat
 xs:List Value
def Row.ok (w:World) (r:Row):Prop:=w.ownsRow 0 r.e r.size r.v r.n r.xs
def blks (g:Nat) (rs:List Row):List (Option Nat):=some g :: rs.map (fun r=>r.v.ownBlock)
def Apart (b:List (Option Nat)):Prop:=b.Pairwise (fun x y=>∀ k,x=some k→y≠some k)
structure Ob (w:World) (g:Nat) (t:TypeId) (cs:Array Value) (rs:List Row):Prop where
 has:Has w g t cs
 rows:∀ r∈rs,r.ok w
 apart:Apart (blks g rs)
structure Turn (b b':List (Option Nat)) (w w':World):Prop where
 os:w'.os=w.os
 tape:w'.tape=w.tape
 output:w'.output=w.output
 size:w.heap.size≤w'.heap.size
 block:∀ k,k<w.heap.size→some k∉b→w'.heap[k]? = w.heap[k]?
 new:∀ k,some k∈b'→some k∈b∨w.heap.size≤k
def Disj (b c:List (Option Nat)):Prop:=∀ k,some k∈b→some k∉c
theorem Disj.symm {b c:List (Option Nat)} (h:Disj b c):Disj c b:=fun k hk h2=>h k h2 hk
section
variable {w w' w1 w2:World} {b b1 b2 c:List (Option Nat)} {g:Nat} {t:TypeId} {cs:Array Value} {rs:List Row}
theorem Turn.refl (b:List (Option Nat)) (w:World):Turn b b w w:=⟨rfl,rfl,rfl,Nat.le_refl _,fun _ _ _=>rfl,fun _ h=>.inl h⟩
theorem Turn.trans (h:Turn b b1 w w1) (k:Turn b1 b2 w1 w2):Turn b b2 w w2:=by
 refine ⟨k.os.trans h.os,k.tape.trans h.tape,k.output.trans h.output,Nat.le_trans h.size k.size,fun i hi hn=>?_,fun i hi=>?_⟩
 ·refine (k.block i (Nat.lt_of_lt_of_le hi h.size) (fun h2=>?_)).trans (h.block i hi hn)
  rcases h.new i h2 with h3 | h3
  ·exact hn h3
  ·omega
 ·rcases k.new i hi with h3 | h3
  ·exact h.new i h3
  ·exact .inr (Nat.le_trans h.size h3)
theorem Turn.below (b:List (Option Nat)) (hb:Below w.heap.size w w'):Turn b b w w':=⟨hb.os,hb.tape,hb.output,hb.size,fun k hk _=>hb.block k hk,fun _ h=>.inl h⟩
theorem Turn.bel {B:Nat} {a:World} (h:Turn b b1 w w1) (hb:Below B a w) (hB:∀ k,some k∈b→B≤k) (hBw:B≤w.heap.size):Below B a w1 :=
 hb.trans ⟨h.os,h.tape,h.output,h.size,fun k hk=>h.block k (Nat.lt_of_lt_of_le hk hBw) (fun h2=>by have:=hB k h2;omega)⟩
theorem Turn.low {B:Nat} (h:Turn b b1 w w1) (hB:∀ k,some k∈b→B≤k) (hBw:B≤w.heap.size):∀ k,some k∈b1→B≤k:=fun k hk=>by
 rcases h.new k hk with h2 | h2
 ·exact hB k h2
 ·omega
theorem Ob.lt (h:Ob w g t cs rs) {k:Nat} (hk:some k∈blks g rs):k<w.heap.size:=by
 rcases List.mem_cons.1 hk with e | hk
 ·cases e;exact h.has.lt
 ·obtain ⟨r,hr,e⟩:=List.mem_map.1 hk
  exact ((h.rows r hr).lt k e).2
theorem own_blocks {e:TypeId} {size n:Nat} {v:Value} {xs:List Value} (h:w.ownsRow 0 e size v n xs) (hb:∀ k,v.ownBlock=some k→w'.heap[k]? = w.heap[k]?):w'.ownsRow 0 e size v n xs:=by
 refine ⟨h.1, ?_⟩
 rcases h.2 with h | ⟨g,cap,cur,hv,hbg,hg,r⟩
 ·exact .inl h
 ·exact .inr ⟨g,cap,cur,hv,hbg,(hb g (by rw [hv];rfl)).trans hg,r⟩
theorem Ob.kept (h:Ob w g t cs rs) (hb:∀ k,some k∈blks g rs→w'.heap[k]? = w.heap[k]?):Ob w' g t cs rs :=
 ⟨(hb g (List.mem_cons_self ..)).trans h.has,fun r hr=>own_blocks (h.rows r hr) fun k hk=>hb k (List.mem_cons_of_mem _ (List.mem_map.2 ⟨r,hr,hk⟩)),h.apart⟩
theorem Ob.far (h:Ob w g t cs rs) (ht:Turn b b1 w w1) (hd:Disj b (blks g rs)):Ob w1 g t cs rs:=h.kept fun k hk=>ht.block k (h.lt hk) (fun h2=>hd k h2 hk)
theorem Ob.disj (h:Ob w g t cs rs) (ht:Turn b b1 w w1) (hd:Disj b (blks g rs)):Disj b1 (blks g rs):=fun k hk h2=>by
 rcases ht.new k hk with h3 | h3
 ·exact hd k h3 h2
 ·have:=h.lt h2;omega
theorem Ob.below (h:Ob w g t cs rs) (hb:Below w.heap.size w w'):Ob w' g t cs rs:=h.kept fun k hk=>hb.block k (h.lt hk)
theorem Ob.alloc (h:Ob w g t cs rs) (o:Obj):Ob (w.alloc o) g t cs rs:=h.below ((Below.refl _ _).alloc (Nat.le_refl _) _)
theorem apart_head (h:Apart (blks g rs)) {r:Row} (hr:r∈rs):r.v.ownBlock≠some g:=by
 obtain ⟨h1,_⟩:=List.pairwise_cons.1 h
 exact h1 r.v.ownBlock (List.mem_map.2 ⟨r,hr,rfl⟩) g rfl
theorem Ob.set (h:Ob w g t cs rs) (i:Nat) (u:Value):Ob (w.setCell ⟨g,i,none⟩ u) g t (cs.setIfInBounds i u) rs :=
 ⟨h.has.set i u,fun r hr=>own_blocks (h.rows r hr) fun k hk=>Below.heap_setCell _ _ _ _ (fun e=>apart_head h.apart hr (by rw [hk];exact congrArg some e)),h.apart⟩
theorem Turn.set (g:Nat) (rs:List Row) (i:Nat) (u:Value) (w:World):Turn (blks g rs) (blks g rs) w (w.setCell ⟨g,i,none⟩ u) :=
 ⟨rfl,rfl,rfl,by simp [World.setCell],fun k _ hk=>Below.heap_setCell _ _ _ _ (fun e=>hk (by rw [show k=g from e];exact List.mem_cons_self ..)),fun _ h=>.inl h⟩
theorem Ob.row0 (h:Ob w g t cs rs) (i:Nat) {r r':Row} (hr:rs[i]? = some r) (hg:w.grownBy w' r.v.ownBlock) (hr':r'.ok w') (hnew:∀ k,r'.v.ownBlock=some k→r.v.ownBlock=some k∨some k∉blks g rs) :
 Ob w' g t cs (rs.set i r'):=by
 have hmem:r∈rs:=List.mem_of_getElem? hr
 obtain ⟨hi,hri⟩:=List.getElem?_eq_some_iff.1 hr
 have hap:=h.apart
 have hin:∀ x,x∈rs→∀ k,x.v.ownBlock=some k→some k∈blks g rs:=fun x hx k hk=>List.mem_cons_of_mem _ (List.mem_map.2 ⟨x,hx,hk⟩)
 have hget:∀ j x,(rs.set i r')[j]? = some x→(j=i∧x=r')∨(j≠i∧rs[j]? = some x):=fun j x hj=>by
  rw [List.getElem?_set] at hj
  split at hj
  ·rename_i e;subst e
   first
    | (cases hj;exact .inl ⟨rfl,rfl⟩)
    | (split at hj
       ·cases hj;exact .inl ⟨rfl,rfl⟩
       ·cases hj)
  ·rename_i e;exact .inr ⟨fun e2=>e e2.symm,hj⟩
 have hpair:∀ j x,rs[j]? = some x→j≠i→∀ k,x.v.ownBlock=some k→r.v.ownBlock≠some k:=fun j x hj hji k hk e=>by
  have hp:=(List.pairwise_cons.1 hap).2
  rw [List.pairwise_map] at hp
  obtain ⟨hj1,hj2⟩:=List.getElem?_eq_some_iff.1 hj
  rcases Nat.lt_or_ge j i with h1 | h1
  ·have:=List.pairwise_iff_getElem.1 hp j i hj1 hi h1
   rw [hj2,hri] at this
   exact this k hk e
  ·have:=List.pairwise_iff_getElem.1 hp i j hi hj1 (by omega)
   rw [hj2,hri] at this
   exact this k e hk
 have hgr:r.v.ownBlock≠some g:=apart_head hap hmem
 refine ⟨(hg.block g h.has.lt (fun e=>hgr e.symm)).trans h.has,fun x hx=>?_, ?_⟩
 ·obtain ⟨j,hj⟩:=List.getElem?_of_mem hx
  rcases hget j x hj with ⟨_,rfl⟩ | ⟨hji,hj2⟩
  ·exact hr'
  ·have hm2:x∈rs:=List.mem_of_getElem? hj2
   exact own_blocks (h.rows x hm2) fun k hk=>hg.block k ((h.rows x hm2).lt k hk).2 (fun e=>hpair j x hj2 hji k hk e.symm)
 ·refine List.pairwise_cons.2 ⟨fun y hy k hk=>?_, ?_⟩
  ·cases hk
   obtain ⟨x,hx,rfl⟩:=List.mem_map.1 hy
   obtain ⟨j,hj⟩:=List.getElem?_of_mem hx
   rcases hget j x hj with ⟨_,rfl⟩ | ⟨_,hj2⟩
   ·intro e
    rcases hnew _ e with h2 | h2
    ·exact hgr h2
    ·exact h2 (List.mem_cons_self ..)
   ·exact apart_head hap (List.mem_of_getElem? hj2)
  ·rw [List.pairwise_map,List.pairwise_iff_getElem]
   intro j1 j2 h1 h2 hlt k hk e
   have g1:=hget j1 _ (List.getElem?_eq_getElem h1)
   have g2:=hget j2 _ (List.getElem?_eq_getElem h2)
   generalize (rs.set i r')[j1]=x1 at *
   generalize (rs.set i r')[j2]=x2 at *
   rcases g1 with ⟨e1,rfl⟩ | ⟨n1,q1⟩
   ·rcases g2 with ⟨e2,rfl⟩ | ⟨n2,q2⟩
    ·omega
    ·rcases hnew k hk with h3 | h3
     ·exact hpair j2 x2 q2 n2 k e h3
     ·exact h3 (hin x2 (List.mem_of_getElem? q2) k e)
   ·rcases g2 with ⟨e2,rfl⟩ | ⟨n2,q2⟩
    ·rcases hnew k e with h3 | h3
     ·exact hpair j1 x1 q1 n1 k hk h3
     ·exact h3 (hin x1 (List.mem_of_getElem? q1) k hk)
    ·have hp:=(List.pairwise_cons.1 hap).2
     rw [List.pairwise_map] at hp
     obtain ⟨hj1,hj2⟩:=List.getElem?_eq_some_iff.1 q1
     obtain ⟨hk1,hk2⟩:=List.getElem?_eq_some_iff.1 q2
     have:=List.pairwise_iff_getElem.1 hp j1 j2 hj1 hk1 hlt
     rw [hj2,hk2] at this
     exact this k hk e
theorem blks_set (rs:List Row) (i:Nat) (r':Row) {k:Nat} (hk:some k∈blks g (rs.set i r')):some k∈blks g rs∨r'.v.ownBlock=some k:=by
 rcases List.mem_cons.1 hk with e | hk
 ·exact .inl (e ▸ List.mem_cons_self ..)
 ·obtain ⟨x,hx,e⟩:=List.mem_map.1 hk
  rcases List.mem_or_eq_of_mem_set hx with h | h
  ·exact .inl (List.mem_cons_of_mem _ (List.mem_map.2 ⟨x,h,e⟩))
  ·exact .inr (h ▸ e)
theorem Ob.row (h:Ob w g t cs rs) (i:Nat) {r r':Row} (hr:rs[i]? = some r) (hg:w.grownBy w' r.v.ownBlock) (hr':r'.ok w') (hat:r'.v.ownBlock=r.v.ownBlock∨∀ k,r'.v.ownBlock=some k→w.heap.size≤k) :
 Ob w' g t cs (rs.set i r')∧Turn (blks g rs) (blks g (rs.set i r')) w w':=by
 have hmem:r∈rs:=List.mem_of_getElem? hr
 have hnew:∀ k,r'.v.ownBlock=some k→r.v.ownBlock=some k∨w.heap.size≤k:=fun k hk=>by
  rcases hat with e | e
  ·exact .inl (e ▸ hk)
  ·exact .inr (e k hk)
 refine ⟨h.row0 i hr hg hr' fun k hk=>(hnew k hk).imp id fun h2 h3=>by have:=h.lt h3;omega,⟨hg.os,hg.tape,hg.output,hg.size,fun k hk hn=>hg.block k hk (fun e=>hn ?_),fun k hk=>?_⟩⟩
 ·exact List.mem_cons_of_mem _ (List.mem_map.2 ⟨r,hmem,e.symm⟩)
 ·rcases blks_set rs i r' hk with h2 | h2
  ·exact .inl h2
  ·rcases hnew k h2 with h3 | h3
   ·exact .inl (List.mem_cons_of_mem _ (List.mem_map.2 ⟨r,hmem,h3⟩))
   ·exact .inr h3
theorem Ob.swap (h:Ob w g t cs rs) (i:Nat) {r r':Row} (hr:rs[i]? = some r) (hr':r'.ok w) (hn:∀ k,r'.v.ownBlock=some k→some k∉blks g rs):Ob w g t cs (rs.set i r') :=
 h.row0 i hr (grownBy_refl _ _) hr' fun k hk=>.inr (hn k hk)
theorem Turn.swap {w0:World} (ht:Turn b (blks g rs) w0 w) (i:Nat) {r':Row} (hlow:∀ k,r'.v.ownBlock=some k→w0.heap.size≤k):Turn b (blks g (rs.set i r')) w0 w :=
 ⟨ht.os,ht.tape,ht.output,ht.size,ht.block,fun k hk=>by
   rcases blks_set rs i r' hk with h2 | h2
   ·exact ht.new k h2
   ·exact .inr (hlow k h2)⟩
theorem own_mono0 {w:World} {b:Nat} {e:TypeId} {size:Nat} {v:Value} {n:Nat} {xs:List Value} (h:w.ownsRow b e size v n xs):w.ownsRow 0 e size v n xs:=by
 refine ⟨h.1, ?_⟩
 rcases h.2 with h | ⟨g,cap,cur,hv,hbg,r⟩
 ·exact .inl h
 ·exact .inr ⟨g,cap,cur,hv,Nat.zero_le _,r⟩
theorem grownBy_weak {r:Option Nat} (h:w.grownBy w' none):w.grownBy w' r:=⟨h.os,h.tape,h.output,h.size,fun k hk _=>h.block k hk (by simp)⟩
end
end Go.Proofs.YtjihboddejaelaaGreat
namespace Go.Proofs.YtjihboddejaelaaGreat
open Go.RowKit
open Go.BigFrame
theorem made_zeroN (n:Nat) (w:World):BS (w.alloc (.cells (madeCells #[.int .u8 0] n) 5)) (some ⟨w.heap.size,0,none⟩) n (List.replicate n 0):=by
 have e:madeCells #[Value.int .u8 0] n=(u8s (List.replicate n 0)).toArray:=by
  apply Array.toList_inj.1
  rw [show (u8s (List.replicate n 0)).toArray.toList=List.replicate n (Value.int .u8 0) by simp [u8s,u8v]]
  refine List.eq_replicate_iff.2 ⟨by simp [size_madeCells],fun b hb=>?_⟩
  simp only [madeCells,Array.toList_map,List.mem_map] at hb
  obtain ⟨a,_,rfl⟩:=hb
  show (#[Value.int .u8 0]:Array Value)[a % 1]! = _
  rw [Nat.mod_one];rfl
 rw [e]
 have:=BS.of_has (Has.new w 5 (u8s (List.replicate n 0)).toArray)
 rwa [List.length_replicate] at this
theorem make_bytesN (i:Nat) (hi:i≤67108864) (w:World):(Instr.makeSlice 39 (.int .i64 i) (.int .i64 i)).run Tryz.prog w = .ok (.slice (some ⟨w.heap.size,0,none⟩) i i) (w.alloc (.cells (madeCells #[.int .u8 0] i) 5)):=by
 obtain ⟨i0,hi0,hz0,hz1,hz2⟩:=info_parts infoByte
 have:=run_make (P:=Tryz.prog) w 39 5 i0 _ Tryz.underlying39 hi0 hz0 .i64 .i64 (i:Int) (i:Int) (by omega) (by omega) (by rw [hz2];omega) (by omega)
 rw [hz1,show (Value.int .u8 0).cells = #[.int .u8 0] from rfl] at this
 simpa using this
set_option maxRecDepth 100000 in
set_option maxHeartbeats 1600000 in
theorem ref_filled (l:List UInt8) (n:Nat) (hl:l.length≤67108864) (hn:n≤67108864) (w:World) :
 Calls Tryz.prog 168 #[.string (bsOf l),.int .i64 n] w fun e w'=>e = .returned (.string (bsOf (zerosTo l n)))∧Below w.heap.size w w':=by
 obtain ⟨S,hS⟩:∃ S,bsOf l=S:=⟨_,rfl⟩
 have hs:S.size=l.length:=by rw [← hS,bsOf_size]
 by_cases h:n≤l.length
 ·have E:=Lib.hid (show bsOf (zerosTo l n)=S by rw [zerosTo_big h,hS])
  rw [E.out,hS]
  have h2:n≤S.size:=by omega
  have h3:S.size≤67108864:=by omega
  clear hs hl h hS
  go_enter Tryz.func168,Tryz.ntmps168
  go_wp2_with fail
  go_ret
  exact ⟨rfl,Below.refl _ _⟩
 ·obtain ⟨k,hk⟩:∃ k,n-l.length=k:=⟨_,rfl⟩
  have hmk:=make_bytesN k (by omega) w
  obtain ⟨Z,hZ⟩:∃ s,bsOf (List.replicate k 0)=s:=⟨_,rfl⟩
  have hcv:=conv_BS (c:=k) (made_zeroN k w)
  rw [hZ] at hcv
  have E:=Lib.hid (show S++Z=bsOf (zerosTo l n) by rw [← hS,← hZ,bsOf_append];unfold zerosTo;rw [hk])
  have lz:Z.size=k:=by rw [← hZ,bsOf_size,List.length_replicate]
  have h2:¬ n≤S.size:=by omega
  have h3:S.size≤67108864:=by omega
  have h4:(n:Int)-(S.size:Int)=(k:Int):=by omega
  rw [hS,← E.out]
  have h5:Z.size≤67108864:=by omega
  clear hs hl h hS hZ hk lz
  go_enter Tryz.func168,Tryz.ntmps168
  go_wp2_with fail
  go_ret
  exact ⟨rfl,(Below.refl _ _).alloc (Nat.le_refl _) _⟩
theorem extr_take (l:List UInt8) (n:Nat):(bsOf l).extract 0 n=bsOf (l.take n):=by
 apply ByteArray.ext;apply Array.toList_inj.1
 rw [Lib.extract_data,bsOf_data,bsOf_data];simp
theorem extr_drop (l:List UInt8) (n:Nat):(bsOf l).extract n (bsOf l).size=bsOf (l.drop n):=by
 apply ByteArray.ext;apply Array.toList_inj.1
 rw [Lib.extract_data,bsOf_data,bsOf_data,bsOf_size,List.take_of_length_le (by simp)]
def actVal (c:Ch):Value:=.agg #[.int .i64 c.file,.int .i64 c.at_,.string c.text,.bool c.cut]
theorem Has.cells4r {w:World} {g:Nat} {t:TypeId} {a0 a1 a2 a3:Value} (h:Has w g t #[a0,a1,a2,a3]):w.cell? ⟨g,0,none⟩=some a0∧w.cell? ⟨g,1,none⟩=some a1∧w.cell? ⟨g,2,none⟩=some a2∧w.cell? ⟨g,3,none⟩=some a3 :=
 ⟨h.cell 0,h.cell 1,h.cell 2,h.cell 3⟩
set_option maxRecDepth 100000 in
set_option maxHeartbeats 1600000 in
theorem ref_on (c:Ch) (l:List UInt8) (hl:l.length≤67108864) (hc:c.fits) (w:World) :
 Calls Tryz.prog 88 #[actVal c,.string (bsOf l)] w fun e w'=>e = .returned (.string (bsOf (c.done l)))∧Below w.heap.size w w':=by
 obtain ⟨f,a,t,b⟩:=c
 obtain ⟨hf,ha,hat,hct⟩:=hc
 simp only at hf ha hat hct
 show Calls Tryz.prog 88 #[.agg #[.int .i64 f,.int .i64 a,.string t,.bool b],.string (bsOf l)] w fun e w'=>e = .returned (.string (bsOf (Ch.done ⟨f,a,t,b⟩ l)))∧Below w.heap.size w w'
 have HX:=Lib.hid (Has.new w 160 #[.int .i64 f,.int .i64 a,.string t,.bool b])
 have HB:=Lib.hid ((Below.refl w.heap.size w).alloc (Nat.le_refl _) (.cells #[.int .i64 f,.int .i64 a,.string t,.bool b] 160))
 cases b with
 | true =>
   have T:=Lib.hid (fun w1=>ref_filled l a hl ha w1)
   have hz:=zerosTo_len l a
   have ex:=extr_take (zerosTo l a) a
   have E:=Lib.hid (show Ch.done ⟨f,a,t,true⟩ l=(zerosTo l a).take a from rfl)
   rw [E.out]
   obtain ⟨F,hF⟩:∃ F,bsOf (zerosTo l a)=F:=⟨_,rfl⟩
   obtain ⟨R,hR⟩:∃ F,bsOf ((zerosTo l a).take a)=F:=⟨_,rfl⟩
   obtain ⟨S,hS⟩:∃ F,bsOf l=F:=⟨_,rfl⟩
   have lF:F.size=max l.length a:=by rw [← hF,bsOf_size,hz]
   have lF2:a≤F.size:=by omega
   have lF3:F.size≤67108864:=by omega
   rw [hF,hS] at T
   rw [hF,hR] at ex
   rw [hR,hS]
   have i1:(0:Int)≤(a:Int):=by omega
   have i2:(a:Int)≤(F.size:Int):=by omega
   clear hz hF hR hS lF hl hat hct hf
   go_enter Tryz.func88,Tryz.ntmps88
   go_wp2_with fail
   generalize w.alloc (.cells #[.int .i64 f,.int .i64 a,.string t,.bool true] 160)=W at *
   obtain ⟨x0,x1,x2,x3⟩:=HX.out.cells4r
   have xz:=HX.out.lt
   refine wp_region_cls (W) (by kernel_rfl) (by kernel_rfl) (Cls.start _) ?_
   repeat
    first
     | go_big_quiet_skip
     | (go_big_quiet_want;(first | go_big_quiet_op | go_simp);first | go_big_quiet_on | (apply Exists.intro;refine ⟨fun w' hw'=>?_, ?_⟩;(·(first | (with_reducible exact rfl) | ((go_at_call 168;refine (T.out _).mono ?_;rintro e w1 ⟨rfl,hb⟩;exact ⟨rfl,Cls.step hw' hb⟩)) | (obtain ⟨hc,hf⟩:=hw'.facts;go_simp;first | done | (with_reducible exact rfl) | (with_reducible exact ⟨rfl,rfl⟩))));go_big_quiet_on))
   refine wpQuiet_nil ?_
   intro wq hq
   have HQ:=Lib.hid hq
   clear hq
   go_wp2_with fail
   go_ret
   exact ⟨rfl,bel_step HB.out HQ.out HB.out.size⟩
 | false =>
   obtain ⟨N,hN⟩:∃ N,a+t.size=N:=⟨_,rfl⟩
   have hN2:(a:Int)+(t.size:Int)=(N:Int):=by omega
   have T:=Lib.hid (fun w1=>ref_filled l N hl (by omega) w1)
   have hz:=zerosTo_len l N
   have ex:=extr_take (zerosTo l N) a
   have ex2:=extr_drop (zerosTo l N) N
   have ht:t.data.toList.length=t.size:=by simp
   obtain ⟨R,hR⟩:∃ F,bsOf (Ch.done ⟨f,a,t,false⟩ l)=F:=⟨_,rfl⟩
   have E:=Lib.hid (show (bsOf ((zerosTo l N).take a)++t)++bsOf ((zerosTo l N).drop N)=R by
    rw [← hR,← bsOf_of t,bsOf_append,bsOf_append]
    unfold Ch.done putL
    simp only [ht,hN,bsOf_of]
    rfl)
   obtain ⟨F,hF⟩:∃ F,bsOf (zerosTo l N)=F:=⟨_,rfl⟩
   obtain ⟨S,hS⟩:∃ F,bsOf l=F:=⟨_,rfl⟩
   obtain ⟨P1,hP1⟩:∃ F,bsOf ((zerosTo l N).take a)=F:=⟨_,rfl⟩
   obtain ⟨P2,hP2⟩:∃ F,bsOf ((zerosTo l N).drop N)=F:=⟨_,rfl⟩
   have lF:F.size=max l.length N:=by rw [← hF,bsOf_size,hz]
   have lF2:N≤F.size:=by omega
   have lF4:a≤F.size:=by omega
   have lF3:F.size≤67108864:=by omega
   have lP1:P1.size≤67108864:=by rw [← hP1,bsOf_size,List.length_take];omega
   have lP2:P2.size≤67108864:=by rw [← hP2,bsOf_size,List.length_drop];omega
   rw [hF,hS] at T
   rw [hF,hP1] at ex
   rw [hF,hP2] at ex2
   rw [hP1,hP2] at E
   rw [hR,hS,← E.out]
   have i1:(0:Int)≤(a:Int):=by omega
   have i2:(a:Int)≤(F.size:Int):=by omega
   have i3:(0:Int)≤(N:Int):=by omega
   have i4:(N:Int)≤(F.size:Int):=by omega
   have lt:t.size≤67108864:=by omega
   clear hz hF hR hS lF hl hct hf hP1 hP2 ht hat hN
   go_enter Tryz.func88,Tryz.ntmps88
   go_upto_region 4 with (go_at_call 168;(with_reducible refine (T.out _).mono ?_);rintro e w1 ⟨rfl,hb1⟩)
   have HX1:=Lib.hid (HX.out.belowS hb1)
   have HB1:=Lib.hid (bel_step HB.out hb1 HB.out.size)
   clear hb1
   obtain ⟨x0,x1,x2,x3⟩:=HX1.out.cells4r
   have xz:=HX1.out.lt
   have w1e:IntKind.i64.wrap ((a:Int)+(t.size:Int))=(N:Int):=by rw [hN2];exact IntWalk.i64_in _ ⟨by omega,by omega⟩
   have s1:P1.size+t.size≤9223372036854775807:=by omega
   have s2:(P1++t).size+P2.size≤9223372036854775807:=by rw [ByteArray.size_append];omega
   refine wp_region_cls (w1) (by kernel_rfl) (by kernel_rfl) (Cls.start _) ?_
   repeat
    first
     | go_big_quiet_skip
     | (go_big_quiet_want;(first | go_big_quiet_op | go_simp);first | go_big_quiet_on | (apply Exists.intro;refine ⟨fun w' hw'=>?_, ?_⟩;(·(first | (with_reducible exact rfl) | (fail) | (obtain ⟨hc,hf⟩:=hw'.facts;go_simp;first | done | (with_reducible exact rfl) | (with_reducible exact ⟨rfl,rfl⟩))));go_big_quiet_on))
   refine wpQuiet_nil ?_
   intro wq hq
   have HQ:=Lib.hid hq
   clear hq
   go_wp2_with fail
   go_ret
   exact ⟨rfl,bel_step HB1.out HQ.out HB1.out.size⟩
def inB (a b c:Int):Bool:=decide (b≤a) && decide (a≤c)
theorem inB_yes {a b c:Int} (h1:b≤a) (h2:a≤c):inB a b c=true:=by simp [inB,h1,h2]
theorem inB_no {a b c:Int} (h:¬ (b≤a∧a≤c)):inB a b c=false:=by
 unfold inB;rw [Bool.and_eq_false_iff];simp only [decide_eq_false_iff_not];omega
theorem ref_inB (a b c:Int) (w:World):Calls Tryz.prog 63 #[.int .i64 a,.int .i64 b,.int .i64 c] w fun e w'=>e = .returned (.bool (inB a b c))∧w=w':=ref_in a b c w
def fitsR (f a n:Int):Bool:=decide (fitsF f a n)
set_option maxHeartbeats 3200000 in
theorem ref_fits (f a n:Int) (w:World):Calls Tryz.prog 216 #[.int .i64 f,.int .i64 a,.int .i64 n] w fun e w'=>e = .returned (.bool (fitsR f a n))∧w=w':=by
 have I1:=Lib.hid (fun w1=>ref_inB f 0 1 w1)
 have I2:=Lib.hid (fun w1=>ref_inB a 0 67108864 w1)
 have I3:=Lib.hid (fun w1=>ref_inB n 0 (67108864-a) w1)
 by_cases h1:0≤f∧f≤1
 ·rw [inB_yes h1.1 h1.2] at I1
  by_cases h2:0≤a∧a≤67108864
  ·rw [inB_yes h2.1 h2.2] at I2
   obtain ⟨a1,a2⟩:=h2
   by_cases h3:0≤n∧n≤67108864-a
   ·rw [inB_yes h3.1 h3.2] at I3
    have E:=Lib.hid (show fitsR f a n=true from decide_eq_true (by unfold fitsF;omega))
    clear h1 h3
    go_enter Tryz.func216,Tryz.ntmps216
    go_wp2_with (first | (go_at_call 63;(with_reducible refine (I1.out _).mono ?_);rintro e w1 ⟨rfl,rfl⟩) | (go_at_call 63;(with_reducible refine (I2.out _).mono ?_);rintro e w1 ⟨rfl,rfl⟩) | (go_at_call 63;(with_reducible refine (I3.out _).mono ?_);rintro e w1 ⟨rfl,rfl⟩))
    go_ret
    exact ⟨ret_bool (by rw [E.out]),rfl⟩
   ·rw [inB_no h3] at I3
    have E:=Lib.hid (show fitsR f a n=false from decide_eq_false (by unfold fitsF;omega))
    clear h1 h3
    go_enter Tryz.func216,Tryz.ntmps216
    go_wp2_with (first | (go_at_call 63;(with_reducible refine (I1.out _).mono ?_);rintro e w1 ⟨rfl,rfl⟩) | (go_at_call 63;(with_reducible refine (I2.out _).mono ?_);rintro e w1 ⟨rfl,rfl⟩) | (go_at_call 63;(with_reducible refine (I3.out _).mono ?_);rintro e w1 ⟨rfl,rfl⟩))
    go_ret
    exact ⟨ret_bool (by rw [E.out]),rfl⟩
  ·rw [inB_no h2] at I2
   have E:=Lib.hid (show fitsR f a n=false from decide_eq_false (by unfold fitsF;omega))
   clear h1 h2
   go_enter Tryz.func216,Tryz.ntmps216
   go_wp2_with (first | (go_at_call 63;(with_reducible refine (I1.out _).mono ?_);rintro e w1 ⟨rfl,rfl⟩) | (go_at_call 63;(with_reducible refine (I2.out _).mono ?_);rintro e w1 ⟨rfl,rfl⟩))
   go_ret
   exact ⟨ret_bool (by rw [E.out]),rfl⟩
 ·rw [inB_no h1] at I1
  have E:=Lib.hid (show fitsR f a n=false from decide_eq_false (by unfold fitsF;omega))
  clear h1
  go_enter Tryz.func216,Tryz.ntmps216
  go_wp2_with (go_at_call 63;(with_reducible refine (I1.out _).mono ?_);rintro e w1 ⟨rfl,rfl⟩)
  go_ret
  exact ⟨ret_bool (by rw [E.out]),rfl⟩
end Go.Proofs.YtjihboddejaelaaGreat
namespace Go.Proofs.YtjihboddejaelaaGreat
open Go.RowKit
open Go.BigFrame
structure Rst (w:World) (v:Value) (w':World) (v':Value):Prop where
 grown:w.grownBy w' v.ownBlock
 at_:v'.ownBlock=v.ownBlock∨∀ k,v'.ownBlock=some k→w.heap.size≤k
theorem Rst.refl (w:World) (v:Value):Rst w v w v:=⟨grownBy_refl _ _,.inl rfl⟩
theorem Rst.trans {w w1 w2:World} {v v1 v2:Value} (h:Rst w v w1 v1) (k:Rst w1 v1 w2 v2):Rst w v w2 v2:=by
 refine ⟨⟨k.grown.os.trans h.grown.os,k.grown.tape.trans h.grown.tape,k.grown.output.trans h.grown.output,Nat.le_trans h.grown.size k.grown.size,fun i hi hn=>?_⟩, ?_⟩
 ·refine (k.grown.block i (Nat.lt_of_lt_of_le hi h.grown.size) (fun e=>?_)).trans (h.grown.block i hi hn)
  rcases h.at_ with e2 | e2
  ·exact hn (e.trans e2)
  ·have:=e2 i e.symm;omega
 ·rcases k.at_ with e | e
  ·rcases h.at_ with e2 | e2
   ·exact .inl (e.trans e2)
   ·exact .inr (fun i hi=>e2 i (e ▸ hi))
  ·exact .inr (fun i hi=>Nat.le_trans h.grown.size (e i hi))
theorem Rst.below {w w1 w2:World} {v v1:Value} (h:Rst w v w1 v1) (hb:Below w1.heap.size w1 w2):Rst w v w2 v1 :=
 h.trans ⟨below_grownBy hb,.inl rfl⟩
theorem Rst.alloc {w w1:World} {v v1:Value} (h:Rst w v w1 v1) (o:Obj):Rst w v (w1.alloc o) v1:=h.below ((Below.refl _ _).alloc (Nat.le_refl _) _)
theorem Rst.app {w w1 w2:World} {v v1 v2:Value} (h:Rst w v w1 v1) (hg:w1.grownBy w2 v1.ownBlock) (hat:v2.ownBlock=v1.ownBlock∨v2.ownBlock=some w1.heap.size):Rst w v w2 v2 :=
 h.trans ⟨hg,hat.imp id fun e k hk=>by rw [e] at hk;cases hk;exact Nat.le_refl _⟩
theorem Rst.start {w w0:World} {v:Value} (hb:Below w0.heap.size w0 w) {w':World} {v':Value} (h:Rst w v w' v'):Rst w0 v w' v':=(Rst.refl w0 v).below hb |>.trans h
def RowPost (w:World) (e:TypeId) (size:Nat) (v:Value) (n:Nat) (xs:List Value) (e':Ending) (w':World):Prop :=
 ∃ v',e' = .returned v'∧w'.ownsRow 0 e size v' n xs∧Rst w v w' v'
theorem u8s_zero (l:List UInt8):u8s l++[Value.int .u8 0]=u8s (l++[0]):=by rw [u8s_append];rfl
theorem run_copy_own {P:Program} {w:World} (dT sT ty elem:TypeId) (hu:P.underlying dT=some (.slice elem)) (hsz:(P.info? elem).map (·.size)=some 1)
 {e:TypeId} {A:Option Addr} {n c:Nat} {l:List UInt8} (hown:w.ownsRow 0 e 1 (.slice A n c) n (u8s l)) (dp:Option Addr) (dLen dCap off:Nat) (x:ByteArray)
 (hdp:0<x.size→dp=A.map (·.add (off*1))) (hle:x.size≤dLen) (hfit:off+x.size≤n) :
 ∃ w',(Builtin.copy_ #[dT,sT] ty #[.slice dp dLen dCap,.string x]).run P w = .ok (goInt x.size) w'∧w'.ownsRow 0 e 1 (.slice A n c) n (u8s (l.take off++x.data.toList++l.drop (off+x.size)))∧w.grownBy w' (Value.ownBlock (.slice A n c)):=by
 have hll:l.length=n:=by have:=hown.1;rw [u8s_len] at this;omega
 rcases Nat.eq_zero_or_pos x.size with h0 | h0
 ·have hr:=Lib.run_copy_empty_string (P:=P) w dT sT ty elem dp dLen dCap x hu (by rw [hsz];rfl) h0
  have hx:x.data.toList=[]:=List.eq_nil_of_length_eq_zero (by simpa using h0)
  refine ⟨w,by rw [h0];exact hr, ?_,grownBy_refl _ _⟩
  rw [hx,h0,List.append_nil,Nat.add_zero,List.take_append_drop];exact hown
 ·rcases hown.2 with ⟨h1,h2⟩ | ⟨g,cap,cur,hv,hbg,hg,hnc,hcm,hcs,htk⟩
  ·omega
  ·cases hv
   have hdp2:=hdp h0
   have ha:(⟨g,0,none⟩:Addr).add (off*1)=⟨g,off,none⟩:=by rw [addr_add];simp
   simp only [Option.map_some,ha] at hdp2
   subst hdp2
   have hsz2:cur.size=c:=by rw [hcs];omega
   have hr:=Lib.run_copy_row_string (P:=P) w dT sT ty elem g off dLen dCap x cur e hu hsz hg hle (by omega)
   refine ⟨_,hr,⟨?_,.inr ⟨g,c,_,rfl,hbg,setRow_heap w g cur _ e (0,0) hg,hnc,hcm, ?_, ?_⟩⟩,⟨rfl,rfl,rfl,by simp [World.setRow],fun k _ hk=>setRow_other w g k _ (fun e=>hk (by rw [e];rfl))⟩⟩
   ·rw [u8s_len];simp;omega
   ·rw [List.size_toArray]
    simp only [List.length_append,List.length_take,List.length_drop,Array.length_toList,show (Lib.byteCells x.data.toList)=u8s x.data.toList from rfl,u8s_len,show x.data.size=x.size from rfl]
    omega
   ·have htk':cur.toList.take n=u8s l:=by simpa using htk
    have e1:cur.toList.take off=u8s (l.take off):=by
     have:(cur.toList.take n).take off=cur.toList.take off:=by rw [List.take_take,Nat.min_eq_left (by omega)]
     rw [← this,htk'];simp [u8s,List.map_take]
    have e2:(cur.toList.drop (off+x.size)).take (n-(off+x.size))=u8s (l.drop (off+x.size)):=by
     rw [← List.drop_take,htk'];simp [u8s,List.map_drop]
    have hx:x.data.toList.length=x.size:=by simp
    rw [Nat.mul_one]
    show (cur.toList.take off++u8s x.data.toList++cur.toList.drop (off+x.size)).take n=_
    rw [u8s_append,u8s_append,e1,← e2,List.take_append,List.take_of_length_le (by rw [List.length_append,u8s_len,u8s_len,List.length_take,hx];omega)]
    congr 2
    rw [List.length_append,u8s_len,u8s_len,List.length_take,hx]
    omega
theorem wpList_copy_own_str {P:Program} {w:World} {ops:Array Oper} {rest:List Oper} {o:Oper} {a:Act} {Q:Exit→Act→World→Prop} (hgd:o.guard=none) (d s:Operand) (dT sT:TypeId)
 (ho:o.op = .call { callee:=.builtin .copy,args:=#[d,s],argTypes:=#[dT,sT] }) (elem:TypeId) (hu:P.underlying dT=some (.slice elem)) (hsz:(P.info? elem).map (·.size)=some 1)
 {e:TypeId} {A:Option Addr} {n c:Nat} {l:List UInt8} (hown:w.ownsRow 0 e 1 (.slice A n c) n (u8s l)) (dp:Option Addr) (dLen dCap off:Nat) (x:ByteArray)
 (hd:a.eval d = .slice dp dLen dCap) (hs:a.eval s = .string x)
 (hdp:0<x.size→dp=A.map (·.add (off*1))) (hle:x.size≤dLen) (hfit:off+x.size≤n)
 (h:∀ w',w'.ownsRow 0 e 1 (.slice A n c) n (u8s (l.take off++x.data.toList++l.drop (off+x.size)))→w.grownBy w' (Value.ownBlock (.slice A n c))→wpList P ops Q rest (a.put o.dst (goInt x.size)) w'):wpList P ops Q (o :: rest) a w:=by
 refine wpList_plain hgd fun K hK=>?_
 obtain ⟨w',hr,h1,h2⟩:=run_copy_own (P:=P) dT sT o.type elem hu hsz hown dp dLen dCap off x hdp hle hfit
 unfold Oper.wp
 simp [execOp,ho,resolve,invoke,builtin,hd,hs,hr,Result.andThen]
 exact hK _ _ (h w' h1 h2)
theorem slice_from (A:Option Addr) (m c a:Nat) (h:a≤m):∃ dp k,(∀ w:World,(Instr.sliceAt 39 (.slice A m c) (some (.int .i64 a)) none none).run Tryz.prog w = .ok (.slice dp (m-a) k) w)∧(a<c→dp=A.map (·.add (a*1))):=by
 have h1:(0:Int)≤(a:Int):=by omega
 have h2:(a:Int)≤(m:Int):=by omega
 refine ⟨if c=a then A else A.map (·.add (a*1)),c-a,fun w=>?_,fun h=>if_neg (by omega)⟩
 go_simp
def lenV:Value→Nat
 | .slice _ n _=>n
 | _=>0
set_option maxRecDepth 100000 in
set_option maxHeartbeats 1600000 in
theorem disk_put (v:Value) (l:List UInt8) (a:Nat) (t:ByteArray) (w:World) (hown:w.ownsRow 0 5 1 v l.length (u8s l)) (hl:l.length≤67108864) (ha:a+t.size≤67108864) :
 Calls Tryz.prog 167 #[v,.int .i64 a,.string t] w (RowPost w 5 1 v (putL l a t.data.toList).length (u8s (putL l a t.data.toList))):=by
 obtain ⟨i0,hi,hz0,hz1,hz2⟩:=info_parts infoByte
 have HO:=Lib.hid hown
 clear hown
 obtain ⟨N,hN⟩:∃ N,a+t.size=N:=⟨_,rfl⟩
 have hN1:N≤67108864:=by omega
 have hN2:(a:Int)+(t.size:Int)=(N:Int):=by omega
 have HN:=Lib.hid hN
 clear hN ha
 go_enter Tryz.func167,Tryz.ntmps167
 go_wp2_with fail
 go_loopw [0] (fun v0 wr=>∃ m:Nat,l.length≤m∧m≤max l.length N∧wr.ownsRow 0 5 1 v0 m (u8s (zerosTo l m))∧Rst w v wr v0) (fun v0 _=>N-lenV v0)
 case atStart=>exact ⟨l.length,Nat.le_refl _,by omega,by rw [zerosTo_big (Nat.le_refl _)];exact HO.out,Rst.refl _ _⟩
 case round =>
  obtain ⟨m,hm1,hm2,ho,hr⟩:=hrel
  have hm3:m≤67108864:=by omega
  obtain ⟨A,c,rfl,hmc,_⟩:=BS.of_own ho
  have HO1:=Lib.hid ho
  have HR:=Lib.hid hr
  clear HO ho hr
  by_cases hmN:m<N
  ·have G1:=Lib.hid (show m+1≤maxLen by unfold maxLen;omega)
   have G2:=Lib.hid (show (m+1)*1≤140737488355328 by omega)
   have HZ:=Lib.hid (zerosTo_step hm1 hmN)
   go_wp2_with ((at_builtin;refine wpList_append_src _ rfl (.tmp 14) (.tmp 15) 39 39 rfl (0) 5 i0 _ 1 1 Tryz.underlying39 hi hz0 hz1 hz2 zeroByte1 (by decide) (_) (m) (_) rfl (HO1.out.alloc _) (.slice (some ⟨_,0,none⟩) 1 1) (1) ([Value.int .u8 0]) rfl (Src.ofSlice _ Tryz.underlying39 ⟨_,0,none⟩ 1 1 ([Value.int .u8 0]) rfl (World.news_of_block (heap_alloc_new _ _)) (by simp [Value.oneCell'])) (G1.out) (G2.out) (Nat.zero_le _) ?_;intro v1 w1 hown1 hg1 _ hat1);have HO2:=Lib.hid hown1;have HR2:=Lib.hid ((HR.out.alloc _).app hg1 hat1);clear hown1 hg1 hat1)
   rw [u8s_zero,HZ.out] at HO2
   obtain ⟨A2,c2,hv2,_,_⟩:=BS.of_own HO2.out
   have HV2:=Lib.hid hv2
   clear hv2
   go_roundw
   case rel=>exact ⟨m+1,by omega,by omega,HO2.out,HR2.out⟩
   case measure=>rw [HV2.out];simp [lenV];omega
  ·have ham:a≤m:=by have:=HN.out;omega
   obtain ⟨dp,k,hsl,hdp⟩:=slice_from A m c a ham
   have HDP:=Lib.hid hdp
   have HMX:=Lib.hid (show m=max l.length N by omega)
   clear hdp
   go_wp2_with (with_reducible refine wpList_copy_own_str rfl (.tmp 19) (.tmp 20) 39 9 rfl 5 Tryz.underlying39 (by kernel_rfl) HO1.out dp (m-a) k a t rfl rfl (fun h0=>HDP.out (by have:=HN.out;omega)) (by have:=HN.out;omega) (by have:=HN.out;omega) ?_;intro w1 hown1 hg1;have HO2:=Lib.hid hown1;have HG2:=Lib.hid hg1;clear hown1 hg1)
   have hx:t.data.toList.length=t.size:=by simp
   have hm:m=(putL l a t.data.toList).length:=by rw [putL_len,hx,HMX.out,← HN.out]
   have hz:zerosTo l m=zerosTo l (a+t.data.toList.length):=by
    unfold zerosTo;rw [hx,HN.out,show m-l.length=N-l.length by have:=HMX.out;omega]
   go_ret
   refine ⟨_,rfl, ?_,HR.out.trans ⟨HG2.out,.inl rfl⟩⟩
   have:=HO2.out
   rw [hz,← hx] at this
   rw [← hm]
   exact this
theorem ne_app {v v1:Value} {n g:Nat} (h:∀ k,v.ownBlock=some k→k≠g) (hat:v1.ownBlock=v.ownBlock∨v1.ownBlock=some n) (hn:g<n):∀ k,v1.ownBlock=some k→k≠g:=fun k hk=>by
 rcases hat with e | e
 ·exact h k (e ▸ hk)
 ·rw [e] at hk;cases hk;omega
def chVal (c:Ch):Value:=.agg #[.int .i64 c.file,.int .i64 c.at_,.string c.text,.bool c.cut]
def Ch.cells (c:Ch):List Value:=[.int .i64 c.file,.int .i64 c.at_,.string c.text,.bool c.cut]
theorem RowPost.start {w w0:World} {e:TypeId} {size:Nat} {v:Value} {n:Nat} {xs:List Value} {e':Ending} {w':World} (h:RowPost w e size v n xs e' w') (hb:Below w0.heap.size w0 w):RowPost w0 e size v n xs e' w':=by
 obtain ⟨v',h1,h2,h3⟩:=h
 exact ⟨v',h1,h2,h3.start hb⟩
theorem own_len {w:World} {b:Nat} {e:TypeId} {A:Option Addr} {n c k:Nat} {l:List UInt8} (h:w.ownsRow b e 1 (.slice A n c) n (u8s l)) (hk:k≤n):w.ownsRow b e 1 (.slice A k c) k (u8s (l.take k)):=by
 have hl:l.length=n:=by have:=h.1;rw [u8s_len] at this;omega
 refine ⟨by rw [u8s_len,List.length_take];omega, ?_⟩
 rcases h.2 with ⟨h1,h2⟩ | ⟨g,cap,cur,hv,hbg,hg,hnc,hcm,hcs,htk⟩
 ·cases h1;have:k=0:=by omega
  subst this;exact .inl ⟨rfl,rfl⟩
 ·cases hv
  refine .inr ⟨g,c,cur,rfl,hbg,hg,by omega,hcm,hcs, ?_⟩
  have e:(cur.toList.take (n*1)).take (k*1)=cur.toList.take (k*1):=by rw [List.take_take,Nat.min_eq_left (by omega)]
  rw [← e,htk];simp [u8s,List.map_take]
theorem slice_to (A:Option Addr) (m c a:Nat) (h:a≤c) (w:World):(Instr.sliceAt 39 (.slice A m c) none (some (.int .i64 a)) none).run Tryz.prog w = .ok (.slice A a c) w:=by
 have h1:(0:Int)≤(a:Int):=by omega
 have h2:(a:Int)≤(c:Int):=by omega
 go_simp
set_option maxRecDepth 100000 in
set_option maxHeartbeats 1600000 in
theorem disk_done (c:Ch) (v:Value) (l:List UInt8) (w:World) (hown:w.ownsRow 0 5 1 v l.length (u8s l)) (hl:l.length≤67108864) (hc:c.fits) :
 Calls Tryz.prog 87 #[chVal c,v] w (RowPost w 5 1 v (c.done l).length (u8s (c.done l))):=by
 obtain ⟨i0,hi,hz0,hz1,hz2⟩:=info_parts infoByte
 obtain ⟨f,a,t,b⟩:=c
 obtain ⟨hf,ha,hat,hct⟩:=hc
 simp only at hf ha hat hct
 show Calls Tryz.prog 87 #[.agg #[.int .i64 f,.int .i64 a,.string t,.bool b],v] w _
 have HO:=Lib.hid hown
 have HW:=Lib.hid (Has.new w 156 #[.int .i64 f,.int .i64 a,.string t,.bool b])
 have HB0:=Lib.hid ((Below.refl w.heap.size w).alloc (Nat.le_refl _) (.cells #[.int .i64 f,.int .i64 a,.string t,.bool b] 156))
 clear hown
 cases b with
 | false =>
   have E:=Lib.hid (show Ch.done ⟨f,a,t,false⟩ l=putL l a t.data.toList from rfl)
   have T:=Lib.hid (fun w1 h1=>disk_put v l a t w1 h1 hl hat)
   rw [E.out]
   go_enter Tryz.func87,Tryz.ntmps87
   go_wp2_with (go_at_call 167;(with_reducible refine (T.out _ (HO.out.alloc _)).mono ?_);rintro e w1 ⟨v1,rfl,hown1,hr1⟩)
   go_ret
   exact ⟨v1,rfl,hown1,hr1.start HB0.out⟩
 | true =>
   have E:=Lib.hid (show Ch.done ⟨f,a,t,true⟩ l=(zerosTo l a).take a from rfl)
   rw [E.out]
   have HB:=Lib.hid HB0.out.size
   go_enter Tryz.func87,Tryz.ntmps87
   go_wp2_with fail
   go_loopw [1] (fun v1 wr=>∃ m:Nat,l.length≤m∧m≤max l.length a∧wr.ownsRow 0 5 1 v1 m (u8s (zerosTo l m))∧Rst w v wr v1∧Has wr w.heap.size 156 #[.int .i64 f,.int .i64 a,.string t,.bool true]∧∀ k,v1.ownBlock=some k→k≠w.heap.size) (fun v1 _=>a-lenV v1)
   case atStart=>exact ⟨l.length,Nat.le_refl _,by omega,by rw [zerosTo_big (Nat.le_refl _)];exact HO.out.alloc _,(Rst.refl _ _).alloc _,HW.out,fun k hk e=>by have:=(HO.out.lt k hk).2;omega⟩
   case round =>
    obtain ⟨m,hm1,hm2,ho,hr,hw,hne⟩:=hrel
    have hm3:m≤67108864:=by omega
    obtain ⟨A,c,rfl,hmc,_⟩:=BS.of_own ho
    have HO1:=Lib.hid ho
    have HR:=Lib.hid hr
    have HWr:=Lib.hid hw
    have HNE:=Lib.hid hne
    obtain ⟨c0,c1,c2⟩:=(show wr.cell? ⟨w.heap.size,1,none⟩=some (.int .i64 a)∧True∧True from ⟨hw.cell 1,trivial,trivial⟩)
    have cz:=hw.lt
    clear HO ho hr hw hne HW HB0
    by_cases hmN:m<a
    ·have G1:=Lib.hid (show m+1≤maxLen by unfold maxLen;omega)
     have G2:=Lib.hid (show (m+1)*1≤140737488355328 by omega)
     have HZ:=Lib.hid (zerosTo_step hm1 hmN)
     go_wp2_with ((at_builtin;refine wpList_append_src _ rfl (.tmp 12) (.tmp 13) 39 39 rfl (0) 5 i0 _ 1 1 Tryz.underlying39 hi hz0 hz1 hz2 zeroByte1 (by decide) (_) (m) (_) rfl (HO1.out.alloc _) (.slice (some ⟨_,0,none⟩) 1 1) (1) ([Value.int .u8 0]) rfl (Src.ofSlice _ Tryz.underlying39 ⟨_,0,none⟩ 1 1 ([Value.int .u8 0]) rfl (World.news_of_block (heap_alloc_new _ _)) (by simp [Value.oneCell'])) (G1.out) (G2.out) (Nat.zero_le _) ?_;intro v1 w1 hown1 hg1 _ hat1);have HO2:=Lib.hid hown1;have HR2:=Lib.hid ((HR.out.alloc _).app hg1 hat1);have HW2:=Lib.hid ((HWr.out.alloc _).grown hg1 (fun e=>HNE.out _ e.symm rfl));have HNE2:=Lib.hid (ne_app HNE.out hat1 (by simp;omega));clear hown1 hg1 hat1)
     rw [u8s_zero,HZ.out] at HO2
     obtain ⟨A2,c2,hv2,_,_⟩:=BS.of_own HO2.out
     have HV2:=Lib.hid hv2
     clear hv2
     go_roundw
     case rel=>exact ⟨m+1,by omega,by omega,HO2.out,HR2.out,HW2.out,HNE2.out⟩
     case measure=>rw [HV2.out];simp [lenV];omega
    ·have ham:a≤m:=by omega
     have hac:a≤c:=by omega
     have hsl:=fun w=>slice_to A m c a hac w
     have HMX:=Lib.hid (show m=max l.length a by omega)
     go_wp2_with fail
     go_ret
     have ho:=own_len HO1.out ham
     have hz:zerosTo l m=zerosTo l a:=by unfold zerosTo;rw [show m-l.length=a-l.length by have:=HMX.out;omega]
     have hl2:((zerosTo l a).take a).length=a:=by rw [List.length_take,zerosTo_len];omega
     rw [hz] at ho
     refine ⟨_,rfl, ?_,HR.out.trans ⟨grownBy_refl _ _,.inl ?_⟩⟩
     ·rw [hl2];exact ho
     ·cases A <;> rfl
end Go.Proofs.YtjihboddejaelaaGreat
namespace Go.Proofs.YtjihboddejaelaaGreat
open Go.RowKit
open Go.BigFrame
def rowB (v:Value) (l:List UInt8):Row:=⟨v,5,1,l.length,u8s l⟩
def chCells (ws:List Ch):List Value:=ws.flatMap Ch.cells
def rowC (v:Value) (ws:List Ch):Row:=⟨v,156,4,ws.length,chCells ws⟩
def dCells (fs:Int) (dn:Bool) (ct:Nat) (vl0 vs0 vl1 vs1 vw:Value):Array Value:=#[vl0,vs0,vl1,vs1,vw,.int .i64 fs,.bool dn,.int .i64 ct]
def dRows (l0 s0 l1 s1:List UInt8) (ws:List Ch) (vl0 vs0 vl1 vs1 vw:Value):List Row:=[rowB vl0 l0,rowB vs0 s0,rowB vl1 l1,rowB vs1 s1,rowC vw ws]
def DPx (w:World) (b:List (Option Nat)) (g:Nat) (l0 s0 l1 s1:List UInt8) (ws:List Ch) (fs:Int) (dn:Bool) (ct:Nat):Prop :=
 ∃ vl0 vs0 vl1 vs1 vw,b=blks g (dRows l0 s0 l1 s1 ws vl0 vs0 vl1 vs1 vw)∧Ob w g 96 (dCells fs dn ct vl0 vs0 vl1 vs1 vw) (dRows l0 s0 l1 s1 ws vl0 vs0 vl1 vs1 vw)
def DP (w:World) (b:List (Option Nat)) (g:Nat) (D:Dk):Prop:=DPx w b g D.l0 (D.seen 0) D.l1 (D.seen 1) D.waits D.fails D.down D.count
def DPost (w:World) (b:List (Option Nat)) (g:Nat) (D':Dk) (r:Value) (e:Ending) (w':World):Prop :=
 e = .returned r∧∃ b',DP w' b' g D'∧Turn b b' w w'
section
variable {w w':World} {b:List (Option Nat)} {g:Nat} {D:Dk} {t:TypeId} {a0 a1 a2 a3 a4 a5 a6 a7:Value}
theorem Has.cells8 (h:Has w g t #[a0,a1,a2,a3,a4,a5,a6,a7]):w.cell? ⟨g,0,none⟩=some a0∧w.cell? ⟨g,1,none⟩=some a1∧w.cell? ⟨g,2,none⟩=some a2∧w.cell? ⟨g,3,none⟩=some a3∧w.cell? ⟨g,4,none⟩=some a4∧w.cell? ⟨g,5,none⟩=some a5∧w.cell? ⟨g,6,none⟩=some a6∧w.cell? ⟨g,7,none⟩=some a7 :=
 ⟨h.cell 0,h.cell 1,h.cell 2,h.cell 3,h.cell 4,h.cell 5,h.cell 6,h.cell 7⟩
theorem DP.below (h:DP w b g D) (hb:Below w.heap.size w w'):DP w' b g D:=by
 obtain ⟨v0,v1,v2,v3,v4,h1,h2⟩:=h
 exact ⟨v0,v1,v2,v3,v4,h1,h2.below hb⟩
theorem DP.lt (h:DP w b g D) {k:Nat} (hk:some k∈b):k<w.heap.size:=by
 obtain ⟨v0,v1,v2,v3,v4,rfl,h2⟩:=h
 exact h2.lt hk
end
set_option maxRecDepth 100000 in
set_option maxHeartbeats 1600000 in
theorem disk_turn (g:Nat) (D:Dk) (b:List (Option Nat)) (w:World) (h:DP w b g D) (hok:D.ok) (hc:D.count≤4000000000000000000) :
 Calls Tryz.prog 189 #[.pointer (some ⟨g,0,none⟩)] w (DPost w b g D.turn (.int .i64 D.turnE)):=by
 obtain ⟨v0,v1,v2,v3,v4,rfl,hO⟩:=h
 have HOb:=Lib.hid hO
 obtain ⟨c0,c1,c2,c3,c4,c5,c6,c7⟩:=hO.has.cells8
 have cf:=hO.has.frozen
 have cz:=hO.has.lt
 have hfl:=hok.fails
 obtain ⟨l0,l1,ws,fs,dn,ct⟩:=D
 simp only at c5 c6 c7 hfl hc
 clear hO
 obtain ⟨hf1,hf2⟩:=hfl
 cases dn with
 | true =>
   have E:=Lib.hid (show Dk.turn ⟨l0,l1,ws,fs,true,ct⟩=⟨l0,l1,ws,fs,true,ct⟩∧Dk.turnE ⟨l0,l1,ws,fs,true,ct⟩=2 from ⟨if_pos (.inl rfl),if_pos (.inl rfl)⟩)
   rw [E.out.1,E.out.2]
   go_enter Tryz.func189,Tryz.ntmps189
   go_wp2_with fail
   go_ret
   exact ⟨rfl,_,⟨v0,v1,v2,v3,v4,rfl,HOb.out.set 6 (.bool true)⟩,Turn.set _ _ _ _ _⟩
 | false =>
   by_cases f0:fs=0
   ·have E:=Lib.hid (show Dk.turn ⟨l0,l1,ws,fs,false,ct⟩=⟨l0,l1,ws,fs,true,ct⟩∧Dk.turnE ⟨l0,l1,ws,fs,false,ct⟩=2 from ⟨if_pos (.inr f0),if_pos (.inr f0)⟩)
    rw [E.out.1,E.out.2]
    subst f0
    go_enter Tryz.func189,Tryz.ntmps189
    go_wp2_with fail
    go_ret
    exact ⟨rfl,_,⟨v0,v1,v2,v3,v4,rfl,HOb.out.set 6 (.bool true)⟩,Turn.set _ _ _ _ _⟩
   ·have hst:¬ Dk.stops ⟨l0,l1,ws,fs,false,ct⟩:=fun h=>h.elim (fun h=>by cases h) f0
    have E:=Lib.hid (show Dk.turn ⟨l0,l1,ws,fs,false,ct⟩=⟨l0,l1,ws,if 0<fs then fs-1 else fs,false,ct+1⟩∧Dk.turnE ⟨l0,l1,ws,fs,false,ct⟩=0 from ⟨if_neg hst,if_neg hst⟩)
    rw [E.out.1,E.out.2]
    have fe:(fs == 0)=false:=by rw [beq_eq_false_iff_ne];exact f0
    have ec:((ct+1:Nat):Int)=(ct:Int)+1:=by omega
    clear hst f0
    by_cases f1:0<fs
    ·rw [if_pos f1]
     go_enter Tryz.func189,Tryz.ntmps189
     go_wp2_with fail
     go_ret
     refine ⟨rfl,_,⟨v0,v1,v2,v3,v4,rfl, ?_⟩,(Turn.set _ _ 5 (.int .i64 (fs-1)) _).trans (Turn.set _ _ 7 (.int .i64 ((ct:Int)+1)) _)⟩
     exact (HOb.out.set 5 (.int .i64 (fs-1))).set 7 (.int .i64 ((ct:Int)+1))
    ·rw [if_neg f1]
     go_enter Tryz.func189,Tryz.ntmps189
     go_wp2_with fail
     go_ret
     refine ⟨rfl,_,⟨v0,v1,v2,v3,v4,rfl, ?_⟩,Turn.set _ _ 7 (.int .i64 ((ct:Int)+1)) _⟩
     exact HOb.out.set 7 (.int .i64 ((ct:Int)+1))
def fitsB (f a n:Int):Bool:=decide (fitsF f a n)
theorem fitsB_yes {f a n:Int} (h:fitsF f a n):fitsB f a n=true:=decide_eq_true h
theorem fitsB_no {f a n:Int} (h:¬ fitsF f a n):fitsB f a n=false:=decide_eq_false h
set_option maxHeartbeats 3200000 in
theorem disk_right (f a n:Int) (w:World):Calls Tryz.prog 169 #[.int .i64 f,.int .i64 a,.int .i64 n] w fun e w'=>e = .returned (.bool (fitsB f a n))∧w=w':=by
 by_cases h0:0≤f
 rotate_left
 ·have E:=Lib.hid (show fitsB f a n=false from fitsB_no (fun h=>by obtain ⟨g0,g1,g2,g3,g4,g5⟩:=h;omega))
  go_enter Tryz.func169,Tryz.ntmps169
  go_wp2_with fail
  go_ret
  exact ⟨ret_bool (by rw [E.out]),rfl⟩
 by_cases h1:f<2
 rotate_left
 ·have E:=Lib.hid (show fitsB f a n=false from fitsB_no (fun h=>by obtain ⟨g0,g1,g2,g3,g4,g5⟩:=h;omega))
  go_enter Tryz.func169,Tryz.ntmps169
  go_wp2_with fail
  go_ret
  exact ⟨ret_bool (by rw [E.out]),rfl⟩
 by_cases h2:0≤a
 rotate_left
 ·have E:=Lib.hid (show fitsB f a n=false from fitsB_no (fun h=>by obtain ⟨g0,g1,g2,g3,g4,g5⟩:=h;omega))
  go_enter Tryz.func169,Tryz.ntmps169
  go_wp2_with fail
  go_ret
  exact ⟨ret_bool (by rw [E.out]),rfl⟩
 by_cases h3:0≤n
 rotate_left
 ·have E:=Lib.hid (show fitsB f a n=false from fitsB_no (fun h=>by obtain ⟨g0,g1,g2,g3,g4,g5⟩:=h;omega))
  go_enter Tryz.func169,Tryz.ntmps169
  go_wp2_with fail
  go_ret
  exact ⟨ret_bool (by rw [E.out]),rfl⟩
 by_cases h4:a≤67108864
 rotate_left
 ·have E:=Lib.hid (show fitsB f a n=false from fitsB_no (fun h=>by obtain ⟨g0,g1,g2,g3,g4,g5⟩:=h;omega))
  go_enter Tryz.func169,Tryz.ntmps169
  go_wp2_with fail
  go_ret
  exact ⟨ret_bool (by rw [E.out]),rfl⟩
 by_cases h5:n≤67108864-a
 rotate_left
 ·have E:=Lib.hid (show fitsB f a n=false from fitsB_no (fun h=>by obtain ⟨g0,g1,g2,g3,g4,g5⟩:=h;omega))
  go_enter Tryz.func169,Tryz.ntmps169
  go_wp2_with fail
  go_ret
  exact ⟨ret_bool (by rw [E.out]),rfl⟩
 have E:=Lib.hid (show fitsB f a n=true from fitsB_yes ⟨h0,h1,h2,h3,h4,h5⟩)
 go_enter Tryz.func169,Tryz.ntmps169
 go_wp2_with fail
 go_ret
 exact ⟨ret_bool (by rw [E.out]),rfl⟩
set_option maxHeartbeats 400000 in
theorem disk_Down (g:Nat) (D:Dk) (b:List (Option Nat)) (w:World) (h:DP w b g D):Calls Tryz.prog 27 #[.pointer (some ⟨g,0,none⟩)] w fun e w'=>e = .returned (.bool D.down)∧w=w':=by
 obtain ⟨v0,v1,v2,v3,v4,rfl,hO⟩:=h
 obtain ⟨c0,c1,c2,c3,c4,c5,c6,c7⟩:=hO.has.cells8
 go_enter Tryz.func27,Tryz.ntmps27
 go_wp2_with fail
 go_ret
 exact ⟨rfl,rfl⟩
theorem own_form {w:World} {b:Nat} {e:TypeId} {size:Nat} {v:Value} {n:Nat} {xs:List Value} (h:w.ownsRow b e size v n xs):∃ A c,v = .slice A n c∧n≤c:=by
 rcases h.2 with ⟨rfl,rfl⟩ | ⟨g,cap,cur,rfl,_,_,hn,_⟩
 ·exact ⟨none,0,rfl,Nat.le_refl _⟩
 ·exact ⟨_,_,rfl,hn⟩
theorem Ob.own {w:World} {g:Nat} {t:TypeId} {cs:Array Value} {rs:List Row} (h:Ob w g t cs rs) (i:Nat) {r:Row} (hr:rs[i]? = some r):w.ownsRow 0 r.e r.size r.v r.n r.xs:=h.rows r (List.mem_of_getElem? hr)
set_option maxHeartbeats 400000 in
theorem disk_Fail (g:Nat) (D:Dk) (b:List (Option Nat)) (n:Int) (w:World) (h:DP w b g D):Calls Tryz.prog 23 #[.pointer (some ⟨g,0,none⟩),.int .i64 n] w (DPost w b g (D.fail n) (.tuple #[])):=by
 obtain ⟨v0,v1,v2,v3,v4,rfl,hO⟩:=h
 have HOb:=Lib.hid hO
 obtain ⟨c0,c1,c2,c3,c4,c5,c6,c7⟩:=hO.has.cells8
 have cf:=hO.has.frozen
 have cz:=hO.has.lt
 clear hO
 by_cases hn:n<0
 ·have E:=Lib.hid (show D.fail n={ D with fails:=-1 } by unfold Dk.fail;rw [if_pos hn])
  rw [E.out]
  have hm:max n (-1) = -1:=by omega
  go_enter Tryz.func23,Tryz.ntmps23
  go_wp2_with fail
  go_end0
  exact ⟨rfl,_,⟨v0,v1,v2,v3,v4,rfl,HOb.out.set 5 (.int .i64 (-1))⟩,Turn.set _ _ _ _ _⟩
 ·have E:=Lib.hid (show D.fail n={ D with fails:=n } by unfold Dk.fail;rw [if_neg hn])
  rw [E.out]
  have hm:max n (-1)=n:=by omega
  go_enter Tryz.func23,Tryz.ntmps23
  go_wp2_with fail
  go_end0
  exact ⟨rfl,_,⟨v0,v1,v2,v3,v4,rfl,HOb.out.set 5 (.int .i64 n)⟩,Turn.set _ _ _ _ _⟩
theorem slice_mid {w:World} {A:Option Addr} {m c a n:Nat} {l:List UInt8} (hown:w.ownsRow 0 5 1 (.slice A m c) m (u8s l)) (h:a+n≤m) :
 ∃ dp k,(∀ w1:World,(Instr.sliceAt 39 (.slice A m c) (some (.int .i64 a)) (some (.int .i64 ((a:Int)+(n:Int)))) none).run Tryz.prog w1 = .ok (.slice dp n k) w1)∧BS w dp n ((l.drop a).take n):=by
 obtain ⟨A',c',hv,hmc,hb⟩:=BS.of_own hown
 cases hv
 have h1:(0:Int)≤(a:Int):=by omega
 have h2:(a:Int)≤(a:Int)+(n:Int):=by omega
 have h3:(a:Int)+(n:Int)≤(c:Int):=by omega
 have e1:((a:Int)+(n:Int)).toNat-a=n:=by omega
 refine ⟨if c=a then A else A.map (·.add (a*1)),c-a,fun w1=>?_, ?_⟩
 ·go_simp
 ·have hl:=hb.1
  refine ⟨by rw [List.length_take,List.length_drop];omega,fun hn=>?_⟩
  obtain ⟨g,off,rfl,hg,hc⟩:=hb.2 (by omega)
  rw [if_neg (by omega)]
  refine ⟨g,off+a,by simp only [Option.map_some,addr_add];simp,hg,fun i v hv=>?_⟩
  rw [List.getElem?_take] at hv
  split at hv
  ·rw [List.getElem?_drop] at hv
   rw [Nat.add_assoc];exact hc _ _ hv
  ·cases hv
theorem DP.seen {w:World} {b:List (Option Nat)} {g:Nat} {D:Dk} (h:DP w b g D) (f:Nat) (hf:f<2):∃ v A c,w.cell? ⟨g,2*f+1,none⟩=some v∧v = .slice A (D.seen f).length c∧w.ownsRow 0 5 1 v (D.seen f).length (u8s (D.seen f)):=by
 obtain ⟨v0,v1,v2,v3,v4,rfl,hO⟩:=h
 obtain ⟨c0,c1,c2,c3,c4,c5,c6,c7⟩:=hO.has.cells8
 rcases (show f=0∨f=1 by omega) with rfl | rfl
 ·have ho:=hO.own 1 rfl
  obtain ⟨A,c,hv,_⟩:=own_form ho
  exact ⟨v1,A,c,c1,hv,ho⟩
 ·have ho:=hO.own 3 rfl
  obtain ⟨A,c,hv,_⟩:=own_form ho
  exact ⟨v3,A,c,c3,hv,ho⟩
theorem DP.down {w:World} {b:List (Option Nat)} {g:Nat} {D:Dk} (h:DP w b g D):w.cell? ⟨g,6,none⟩=some (.bool D.down)∧g<w.heap.size∧∀ i,w.frozen? ⟨g,i,none⟩=false:=by
 obtain ⟨v0,v1,v2,v3,v4,rfl,hO⟩:=h
 exact ⟨hO.has.cells8.2.2.2.2.2.2.1,hO.has.lt,hO.has.frozen⟩
set_option maxRecDepth 100000 in
set_option maxHeartbeats 1600000 in
theorem disk_Size (g:Nat) (D:Dk) (b:List (Option Nat)) (f:Int) (w:World) (h:DP w b g D) (hok:D.ok):Calls Tryz.prog 94 #[.pointer (some ⟨g,0,none⟩),.int .i64 f] w fun e w'=>e = .returned (.tuple #[.int .i64 (D.sizeN f),.int .i64 (D.sizeE f)])∧w=w':=by
 obtain ⟨c6,cz,_⟩:=h.down
 have R:=Lib.hid (fun w1=>disk_right f 0 0 w1)
 by_cases hf:0≤f∧f<2
 ·rw [fitsB_yes ⟨hf.1,hf.2,by omega,by omega,by omega,by omega⟩] at R
  obtain ⟨F,rfl⟩:∃ F:Nat,f=F:=⟨f.toNat,by omega⟩
  cases hd:D.down with
  | true =>
    have E:=Lib.hid (show D.sizeN F=0∧D.sizeE F=2 from ⟨if_neg (fun h=>by rw [hd] at h;exact absurd h.2.2 (by decide)),by unfold Dk.sizeE;rw [if_pos hf,if_pos hd]⟩)
    rw [E.out.1,E.out.2]
    rw [hd] at c6
    clear hd
    go_enter Tryz.func94,Tryz.ntmps94
    go_wp2_with (go_at_call 169;(with_reducible refine (R.out _).mono ?_);rintro e w1 ⟨rfl,rfl⟩)
    go_ret2
    exact ⟨rfl,rfl⟩
  | false =>
    have E:=Lib.hid (show D.sizeN F=(D.seen F).length∧D.sizeE F=0 from ⟨if_pos ⟨hf.1,hf.2,hd⟩,by unfold Dk.sizeE;rw [if_pos hf,if_neg (by rw [hd];decide)]⟩)
    rw [E.out.1,E.out.2]
    rw [hd] at c6
    obtain ⟨v,A,c,cv,rfl,_⟩:=h.seen F (by omega)
    obtain ⟨S,hS⟩:∃ S,(D.seen F).length=S:=⟨_,rfl⟩
    rw [hS] at cv ⊢
    clear hd hS h
    obtain ⟨hf1,hf2⟩:=hf
    rcases (show F=0∨F=1 by omega) with rfl | rfl
    all_goals
     (first | rw [show ((0:Nat):Int)=0 from rfl] at R | rw [show ((1:Nat):Int)=1 from rfl] at R)
     go_enter Tryz.func94,Tryz.ntmps94
     go_wp2_with (go_at_call 169;(with_reducible refine (R.out _).mono ?_);rintro e w1 ⟨rfl,rfl⟩)
     go_ret2
     exact ⟨rfl,rfl⟩
 ·rw [fitsB_no (fun h=>hf ⟨h.1,h.2.1⟩)] at R
  have E:=Lib.hid (show D.sizeN f=0∧D.sizeE f=1 from ⟨if_neg (fun h=>hf ⟨h.1,h.2.1⟩),if_neg hf⟩)
  rw [E.out.1,E.out.2]
  clear hf
  go_enter Tryz.func94,Tryz.ntmps94
  go_wp2_with (go_at_call 169;(with_reducible refine (R.out _).mono ?_);rintro e w1 ⟨rfl,rfl⟩)
  go_ret2
  exact ⟨rfl,rfl⟩
set_option maxRecDepth 100000 in
set_option maxHeartbeats 3200000 in
theorem disk_Read (g:Nat) (D:Dk) (b:List (Option Nat)) (f a n:Int) (w:World) (h:DP w b g D) (hok:D.ok):Calls Tryz.prog 95 #[.pointer (some ⟨g,0,none⟩),.int .i64 f,.int .i64 a,.int .i64 n] w fun e w'=>e = .returned (.tuple #[.string (D.readS f a n),.int .i64 (D.readE f a n)])∧w=w':=by
 obtain ⟨c6,cz,_⟩:=h.down
 have R:=Lib.hid (fun w1=>disk_right f a n w1)
 by_cases hf:fitsF f a n
 ·rw [fitsB_yes hf] at R
  cases hd:D.down with
  | true =>
    have E:=Lib.hid (show D.readS f a n=⟨#[]⟩∧D.readE f a n=2 from ⟨if_neg (fun h=>by rw [hd] at h;exact absurd h.2.1 (by decide)),by unfold Dk.readE;rw [if_pos hf,if_pos hd]⟩)
    rw [E.out.1,E.out.2]
    rw [hd] at c6
    clear hd
    go_enter Tryz.func95,Tryz.ntmps95
    go_wp2_with (go_at_call 169;(with_reducible refine (R.out _).mono ?_);rintro e w1 ⟨rfl,rfl⟩)
    go_ret2
    exact ⟨rfl,rfl⟩
  | false =>
    obtain ⟨f1,f2,f3,f4,f5,f6⟩:=hf
    have HF:Hid (fitsF f a n):=⟨f1,f2,f3,f4,f5,f6⟩
    obtain ⟨F,rfl⟩:∃ F:Nat,f=F:=⟨f.toNat,by omega⟩
    obtain ⟨a,rfl⟩:∃ F:Nat,a=F:=⟨a.toNat,by omega⟩
    obtain ⟨n,rfl⟩:∃ F:Nat,n=F:=⟨n.toNat,by omega⟩
    rw [hd] at c6
    obtain ⟨v,A,c,cv,rfl,ho⟩:=h.seen F (by omega)
    have hsl:=hok.seen F
    obtain ⟨S,hS⟩:∃ S,(D.seen F).length=S:=⟨_,rfl⟩
    by_cases hfit:a+n≤(D.seen F).length
    ·have E:=Lib.hid (show D.readS F a n=bsOf (((D.seen F).drop a).take n)∧D.readE F a n=0 from ⟨if_pos ⟨HF.out,hd,by simpa using (by omega:(a:Int)+n≤(D.seen F).length)⟩,by unfold Dk.readE;rw [if_pos HF.out,if_neg (by rw [hd];decide),if_pos (by simpa using (by omega:(a:Int)+n≤(D.seen F).length))]⟩)
     rw [E.out.1,E.out.2]
     obtain ⟨dp,k,hs,hb⟩:=slice_mid ho hfit
     have hcv:=conv_BS (c:=k) hb
     obtain ⟨T,hT⟩:∃ T,bsOf (((D.seen F).drop a).take n)=T:=⟨_,rfl⟩
     rw [hT] at hcv ⊢
     rw [hS] at cv hs hfit hsl
     clear hd hS h ho hb hT
     rcases (show F=0∨F=1 by omega) with rfl | rfl
     all_goals
      (first | rw [show ((0:Nat):Int)=0 from rfl] at R | rw [show ((1:Nat):Int)=1 from rfl] at R)
      go_enter Tryz.func95,Tryz.ntmps95
      go_wp2_with (go_at_call 169;(with_reducible refine (R.out _).mono ?_);rintro e w1 ⟨rfl,rfl⟩)
      go_ret2
      exact ⟨rfl,rfl⟩
    ·have E:=Lib.hid (show D.readS F a n=⟨#[]⟩∧D.readE F a n=3 from ⟨if_neg (fun h=>hfit (by have:=h.2.2;simp at this;omega)),by unfold Dk.readE;rw [if_pos HF.out,if_neg (by rw [hd];decide),if_neg (fun h=>hfit (by simp at h;omega))]⟩)
     rw [E.out.1,E.out.2]
     rw [hS] at cv hfit hsl
     clear hd hS h ho
     rcases (show F=0∨F=1 by omega) with rfl | rfl
     all_goals
      (first | rw [show ((0:Nat):Int)=0 from rfl] at R | rw [show ((1:Nat):Int)=1 from rfl] at R)
      go_enter Tryz.func95,Tryz.ntmps95
      go_wp2_with (go_at_call 169;(with_reducible refine (R.out _).mono ?_);rintro e w1 ⟨rfl,rfl⟩)
      go_ret2
      exact ⟨rfl,rfl⟩
 ·rw [fitsB_no hf] at R
  have E:=Lib.hid (show D.readS f a n=⟨#[]⟩∧D.readE f a n=1 from ⟨if_neg (fun h=>hf h.1),if_neg hf⟩)
  rw [E.out.1,E.out.2]
  clear hf
  go_enter Tryz.func95,Tryz.ntmps95
  go_wp2_with (go_at_call 169;(with_reducible refine (R.out _).mono ?_);rintro e w1 ⟨rfl,rfl⟩)
  go_ret2
  exact ⟨rfl,rfl⟩
def Dk.new:Dk:=⟨[],[],[], -1,false,0⟩
theorem Dk.new_ok:Dk.new.ok:=⟨by decide,by decide,(fun c hc=>by cases hc),by show -1≤(-1:Int)∧(-1:Int)≤9223372036854775807;omega⟩
def NewPost (w:World) (e:Ending) (w':World):Prop:=∃ g b,e = .returned (.pointer (some ⟨g,0,none⟩))∧DP w' b g Dk.new∧Turn [] b w w'
set_option maxHeartbeats 400000 in
theorem disk_New (w:World):Calls Tryz.prog 6 #[] w (NewPost w):=by
 go_enter Tryz.func6,Tryz.ntmps6
 go_wp2_with fail
 go_ret
 refine ⟨_,_,rfl,⟨.slice none 0 0,.slice none 0 0,.slice none 0 0,.slice none 0 0,.slice none 0 0,rfl,⟨Has.new _ _ _,fun r hr=>?_, ?_⟩⟩, ?_⟩
 ·simp only [dRows,List.mem_cons,List.mem_nil_iff,or_false] at hr
  rcases hr with rfl | rfl | rfl | rfl | rfl <;> exact World.ownsRow_nil _ _ _ _
 ·simp [Apart,blks,dRows,rowB,rowC,Value.ownBlock]
 ·refine ⟨rfl,rfl,rfl,by simp,fun k hk _=>Below.heap_alloc _ _ _ hk,fun k hk=>?_⟩
  simp [blks,dRows,rowB,rowC,Value.ownBlock] at hk
  exact .inr (by omega)
end Go.Proofs.YtjihboddejaelaaGreat
