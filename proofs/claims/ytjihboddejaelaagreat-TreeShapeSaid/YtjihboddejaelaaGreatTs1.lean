/-
  Words on memory that every contract here leans on: a block that is known whole, kept over draws, new blocks, stores and calls. No program in sight.
-/
import Derived.Below
import Derived.Laws.Rows
import Derived.Laws.OwnMore
import Derived.Deep.Draws
import Derived.Lib.Hide
import Derived.Deep.Quiet
import Derived.Deep.QuietTactic
import Derived.Deep.AppendSrc
import Derived.WalkKit
import Derived.Laws.CopyRow
import Derived.Test.YtjihboddejaelaaGreatRows
import Derived.WalkSpells
import Derived.WalkLawsBesides
import Derived.BigQuiet
import Derived.Outline
import Derived.LoopTactic
import Derived.Deep.DeepCutAuto
import Derived.Deep.AppendLies
import Derived.Laws.BitsAllLaws
import Derived.Laws.CopyOwn
import Derived.Laws.BytesArg
import Derived.IntWalk
import Derived.Laws.MakeOwn
import Derived.Deep.RegionLaw
import Derived.Laws.IdiomStrings
import Derived.Lib.Strings
import Derived.Maps.RangeWalk
import Derived.Maps.OwnSet
import Derived.Maps.OwnOps
import Derived.Maps.Ext
set_option linter.unusedVariables false
set_option linter.unusedSimpArgs false
set_option maxRecDepth 100000
set_option maxHeartbeats 100000000
namespace Go.Proofs.YtjihboddejaelaaGreat
abbrev Ac:=@Go.Lib.hid
end Go.Proofs.YtjihboddejaelaaGreat
namespace Go.Proofs.YtjihboddejaelaaGreat
open Go.RowKit
theorem Am {B:Nat} {w W w1:World} (h:Below B w W) (hb:Below W.heap.size W w1) (hB:B≤W.heap.size):Below B w w1:=h.trans (hb.mono hB)
theorem Vf {W w1:World} (hb:Below W.heap.size W w1):(∀ b o,b<W.heap.size→w1.cell? ⟨b,o,none⟩=W.cell? ⟨b,o,none⟩)∧(∀ b o,b<W.heap.size→w1.frozen? ⟨b,o,none⟩=W.frozen? ⟨b,o,none⟩) :=
 ⟨fun b o h=>hb.cell (p:=⟨b,o,none⟩) h,fun b o h=>hb.frozen (p:=⟨b,o,none⟩) h⟩
def Has (w:World) (g:Nat) (t:TypeId) (cs:Array Value):Prop:=w.heap[g]? = some (.cells cs t (0,0))
section
variable {w w':World} {g:Nat} {t:TypeId} {cs:Array Value}
theorem Has.lt (h:Has w g t cs):g<w.heap.size:=by
 rcases Nat.lt_or_ge g w.heap.size with h1 | h1
 ·exact h1
 ·exact absurd h (by unfold Has;rw [Array.getElem?_eq_none h1];simp)
theorem Has.cell (h:Has w g t cs) (i:Nat):w.cell? ⟨g,i,none⟩=cs[i]? := cell_of_row w g i cs t (0,0) h
theorem Has.frozen (h:Has w g t cs) (i:Nat):w.frozen? ⟨g,i,none⟩=false:=by
 have h':w.heap[g]? = some (.cells cs t (0,0)):=h;simp [World.frozen?,h']
theorem Has.new (w:World) (t:TypeId) (cs:Array Value):Has (w.alloc (.cells cs t)) w.heap.size t cs:=by
 show (w.heap.push _)[w.heap.size]? = _
 simp
theorem Has.alloc (h:Has w g t cs) (o:Obj):Has (w.alloc o) g t cs:=(Below.heap_alloc w o g h.lt).trans h
theorem Has.drew (h:Has w g t cs):Has w.drew g t cs:=h
theorem Has.drewN (h:Has w g t cs) (n:Nat):Has (w.drewN n) g t cs:=h
theorem Has.far (h:Has w g t cs) {p:Addr} (hp:g≠p.block) (u:Value):Has (w.setCell p u) g t cs:=(Below.heap_setCell w p u g hp).trans h
theorem Has.set (h:Has w g t cs) (i:Nat) (u:Value):Has (w.setCell ⟨g,i,none⟩ u) g t (cs.setIfInBounds i u):=by
 have h':w.heap[g]? = some (.cells cs t (0,0)):=h;unfold Has;simp [World.setCell,Array.getElem?_modify,h']
theorem Has.below {B:Nat} (h:Has w g t cs) (hb:Below B w w') (hg:g<B):Has w' g t cs:=(hb.block g hg).trans h
theorem Has.Aj (h:Has w g t cs) (hb:Below w.heap.size w w'):Has w' g t cs:=h.below hb h.lt
theorem Has.grown (h:Has w g t cs) {row:Option Nat} (hb:w.grownBy w' row) (hg:some g≠row):Has w' g t cs:=(hb.block g h.lt hg).trans h
end
section
variable {w:World} {g g':Nat} {t:TypeId} {a b c x y z:Value} {cs:Array Value}
theorem Has.FR1 (h:Has w g t #[a,b,c]):Has (((w.setCell ⟨g,0,none⟩ x).setCell ⟨g,1,none⟩ y).setCell ⟨g,2,none⟩ z) g t #[x,y,z]:=((h.set 0 x).set 1 y).set 2 z
theorem Has.cells2 (h:Has w g t #[a,b]):w.cell? ⟨g,0,none⟩=some a∧w.cell? ⟨g,1,none⟩=some b:=⟨h.cell 0,h.cell 1⟩
theorem Has.cells3 (h:Has w g t #[a,b,c]):w.cell? ⟨g,0,none⟩=some a∧w.cell? ⟨g,1,none⟩=some b∧w.cell? ⟨g,2,none⟩=some c:=⟨h.cell 0,h.cell 1,h.cell 2⟩
theorem Has.GC1 (h:Has w g t cs) (hg:g≠g'):Has (((w.setCell ⟨g',0,none⟩ x).setCell ⟨g',1,none⟩ y).setCell ⟨g',2,none⟩ z) g t cs:=((h.far (p:=⟨g',0,none⟩) hg x).far (p:=⟨g',1,none⟩) hg y).far (p:=⟨g',2,none⟩) hg z
end
def Cls (w0 w':World):Prop:=Below w0.heap.size w0 w'
theorem Cls.start (w:World):Cls w { w with drawn:=w.drawn+1 }:=(Below.refl w.heap.size w).drew
theorem Cls.step {w0 w' w'':World} (h:Cls w0 w') (hb:Below w'.heap.size w' w''):Cls w0 w'':=Am h hb h.size
theorem Cls.facts {W w1:World} (h:Cls W w1):(∀ b o,b<W.heap.size→w1.cell? ⟨b,o,none⟩=W.cell? ⟨b,o,none⟩)∧(∀ b o,b<W.heap.size→w1.frozen? ⟨b,o,none⟩=W.frozen? ⟨b,o,none⟩):=Vf h
theorem Bz {P:Program} {id:Nat} {Q:Exit→Act→World→Prop} {a:Act} {w:World} {l:List Oper} (W:World) (hm:P.follows .mixedOrders=true) (hB:Region.lexB .any l.toArray=true) (hC:Cls W { w with drawn:=w.drawn+1 })
 (h:wpQuiet P l.toArray (Cls W) (fun a'=>∀ w',Cls W w'→Q .normal a' w') l a):(Code.region id l.toArray true).wp P Q a w :=
 wp_region_quiet hm hB hC (by simpa using h)
theorem Cls.bel {W w1:World} (h:Cls W w1):Below W.heap.size W w1:=h
theorem Zk {k:IntKind} {a b:Int} (h:a=b):Ending.returned (.int k a) = .returned (.int k b):=by rw [h]
theorem Qr {a b:Bool} (h:a=b):Ending.returned (.bool a) = .returned (.bool b):=by rw [h]
section
variable {P:Program} (w:World)
theorem Yc (base:Nat) (t tx ty e:TypeId) (i:TypeInfo) (z:Value) (size bytes:Nat) (ht:P.underlying t=some (.slice e)) (hi:P.info? e=some i) (hz:i.zero=some z)
 (hsize:i.size=size) (hby:i.bytes=bytes) (hzs:z.cells.size=size) (hsz:0<size)
 (v:Value) (n:Nat) (xs:List Value) (hown:w.ownsRow base e size v n xs)
 (x:Value) (m:Nat) (news:List Value) (hs:Src P size tx x m news w)
 (h63:n+m≤maxLen) (hbytes:(n+m)*bytes≤140737488355328) (hbase:base≤w.heap.size) :
 ∃ v' w',(Builtin.append_ #[t,tx] ty #[v,x]).run P w = .ok v' w'∧w'.ownsRow base e size v' (n+m) (xs++news)∧w.grownBy w' v.ownBlock ∧
   (v' = .slice none 0 0↔v = .slice none 0 0∧m=0)∧(v'.ownBlock=v.ownBlock∨v'.ownBlock=some w.heap.size):=by
 subst hsize;subst hby;have hl:=hs.newsLen
 have hsmall:n+m≤9223372036854775807:=by simp only [maxLen] at h63;omega
 have hlen:(xs++news).length=(n+m)*i.size:=by rw [List.length_append,hown.1,hl,Nat.add_mul]
 have grown:∀ (old:Nat),old<n+m→∀ (row:Option Nat),
  (w.drew.alloc (.cells ((xs++news).toArray++Builtin.zeroCells z.cells (grownCap w (n+m) old e-(n+m))) e)).ownsRow base e i.size
    (.slice (some ⟨w.heap.size,0,none⟩) (n+m) (grownCap w (n+m) old e)) (n+m) (xs++news) ∧
  w.grownBy (w.drew.alloc (.cells ((xs++news).toArray++Builtin.zeroCells z.cells (grownCap w (n+m) old e-(n+m))) e)) row:=by
  intro old ho row;have hge:=grownCap_ge w (n+m) old e;have hcm:grownCap w (n+m) old e≤maxLen:=grownCap_le_maxLen w (n+m) old e h63
  refine ⟨⟨hlen,.inr ⟨w.heap.size,_,_,rfl,hbase,heap_alloc_new w.drew _,hge,hcm, ?_, ?_⟩⟩,⟨rfl,rfl,rfl,by simp,fun k hk _=>Below.heap_alloc w.drew _ k hk⟩⟩
  ·rw [Array.size_append,List.size_toArray,size_zeroCells,hzs,hlen,← Nat.add_mul]
   congr 1
   omega
  ·rw [Array.toList_append,← hlen]
   exact List.take_left
 rcases hown.2 with ⟨rfl,rfl⟩ | ⟨g,cap,cur,rfl,hbg,hg,hnc,hcm,hcs,htake⟩
 ·have hx:xs=[]:=List.eq_nil_of_length_eq_zero (by simpa using hown.1)
  subst hx
  by_cases hm:m=0
  ·subst hm
   have hn:news=[]:=List.eq_nil_of_length_eq_zero (by simpa using hl)
   subst hn
   refine ⟨.slice none 0 0,w, ?_,World.ownsRow_nil w base e i.size,⟨rfl,rfl,rfl,Nat.le_refl _,fun _ _ _=>rfl⟩,by simp,Or.inl rfl⟩
   rcases hs.kind with ⟨e',hk⟩ | hk <;> simp [Builtin.append_,run_underlying ht,run_underlying hk,sizeOf,typeInfo,hi,hs.len,hs.cells]
  ·have hr:=run_append_grow_src (P:=P) w t tx ty e i z ht hi hz none 0 0 [] (by simp [Builtin.firstCells]) x m news hs (by omega) (by omega) (growslice_fits (by omega) hbytes)
   have hgr:=grown 0 (by omega) (Value.ownBlock (.slice none 0 0))
   exact ⟨_,_,hr,hgr.1,hgr.2,by simp [hm],Or.inr rfl⟩
 ·by_cases hroom:n+m≤cap
  ·have hfit:n*i.size+news.length≤cur.size:=by rw [hl,hcs,← Nat.add_mul];exact Nat.mul_le_mul_right _ hroom
   have hst:=run_storeCells_at P g (n*i.size) e news 0 cur w hg (by simpa using hfit) hs.one
   simp only [Nat.add_zero] at hst
   have hr:(Builtin.append_ #[t,tx] ty #[.slice (some ⟨g,0,none⟩) n cap,x]).run P w =
    .ok (.slice (some ⟨g,0,none⟩) (n+m) cap) (w.setRow g (cur.toList.take (n*i.size)++news++cur.toList.drop (n*i.size+news.length)).toArray):=by
    rcases hs.kind with ⟨e',hk⟩ | hk <;> simp [Builtin.append_,run_underlying ht,run_underlying hk,sizeOf,typeInfo,hi,hs.len,hroom,hs.cells,Addr.add_lit,hst]
   refine ⟨_,_,hr,⟨hlen,.inr ⟨g,cap,_,rfl,hbg,setRow_heap w g cur _ e _ hg,hroom,hcm, ?_, ?_⟩⟩,⟨rfl,rfl,rfl,by simp,fun k _ hk=>setRow_other w g k _ (fun e=>hk (by simp [Value.ownBlock,e]))⟩,by simp,Or.inl rfl⟩
   ·simp only [List.size_toArray,List.length_append,List.length_take,List.length_drop,Array.length_toList]
    omega
   ·rw [htake,← hlen]
    exact List.take_left
  ·have holds:∀ j u,xs[j]? = some u→w.drew.cell? ((⟨g,0,none⟩:Addr).add j)=some u:=fun j u hj=>by
    have:=hown.cells (g:=g) rfl j u hj
    simpa using this
   have hr:=run_append_grow_src (P:=P) w t tx ty e i z ht hi hz (some ⟨g,0,none⟩) n cap xs (run_firstCells_some w.drew i.size n _ n cap xs hown.1 holds) x m news hs (by omega) (by omega) (growslice_fits (by omega) hbytes)
   have hgr:=grown cap (by omega) (Value.ownBlock (.slice (some ⟨g,0,none⟩) n cap))
   exact ⟨_,_,hr,hgr.1,hgr.2,by simp,Or.inr rfl⟩
theorem Xm {o:Oper} {a:Act} {K:Act→World→Prop} {Q:Exit→Act→World→Prop} (s x:Operand) (t tx:TypeId)
 (ho:o.op = .call { callee:=.builtin .append,args:=#[s,x],argTypes:=#[t,tx] })
 (base:Nat) (e:TypeId) (i:TypeInfo) (z:Value) (size bytes:Nat) (ht:P.underlying t=some (.slice e)) (hi:P.info? e=some i) (hz:i.zero=some z)
 (hsize:i.size=size) (hby:i.bytes=bytes) (hzs:z.cells.size=size) (hsz:0<size)
 (v:Value) (n:Nat) (xs:List Value) (hs:a.eval s=v) (hown:w.ownsRow base e size v n xs)
 (y:Value) (m:Nat) (news:List Value) (hx:a.eval x=y) (hsrc:Src P size tx y m news w)
 (h63:n+m≤maxLen) (hbytes:(n+m)*bytes≤140737488355328) (hbase:base≤w.heap.size)
 (h:∀ v' w',w'.ownsRow base e size v' (n+m) (xs++news)→w.grownBy w' v.ownBlock→(v' = .slice none 0 0↔v = .slice none 0 0∧m=0)→(v'.ownBlock=v.ownBlock∨v'.ownBlock=some w.heap.size)→K (a.put o.dst v') w'):o.wp P a w K Q:=by
 obtain ⟨v',w',hr,h2,h3,h4,h5⟩:=Yc (P:=P) w base t tx o.type e i z size bytes ht hi hz hsize hby hzs hsz v n xs hown y m news hsrc h63 hbytes hbase;unfold Oper.wp execOp;simp only [ho,resolve,invoke,builtin,Sem.run_bind,Sem.run_pure,Result.andThen_ok,List.map_toArray,List.map_cons,List.map_nil,hs,hx,hr];exact h v' w' h2 h3 h4 h5
theorem Dh {ops:Array Oper} {rest:List Oper} {o:Oper} {a:Act} {Q:Exit→Act→World→Prop} (hgd:o.guard=none) (s x:Operand) (t tx:TypeId)
 (ho:o.op = .call { callee:=.builtin .append,args:=#[s,x],argTypes:=#[t,tx] })
 (base:Nat) (e:TypeId) (i:TypeInfo) (z:Value) (size bytes:Nat) (ht:P.underlying t=some (.slice e)) (hi:P.info? e=some i) (hz:i.zero=some z)
 (hsize:i.size=size) (hby:i.bytes=bytes) (hzs:z.cells.size=size) (hsz:0<size)
 (v:Value) (n:Nat) (xs:List Value) (hs:a.eval s=v) (hown:w.ownsRow base e size v n xs)
 (y:Value) (m:Nat) (news:List Value) (hx:a.eval x=y) (hsrc:Src P size tx y m news w)
 (h63:n+m≤maxLen) (hbytes:(n+m)*bytes≤140737488355328) (hbase:base≤w.heap.size)
 (h:∀ v' w',w'.ownsRow base e size v' (n+m) (xs++news)→w.grownBy w' v.ownBlock→(v' = .slice none 0 0↔v = .slice none 0 0∧m=0)→(v'.ownBlock=v.ownBlock∨v'.ownBlock=some w.heap.size)→wpList P ops Q rest (a.put o.dst v') w'):wpList P ops Q (o :: rest) a w :=
 wpList_plain hgd fun _ hK=>Xm w s x t tx ho base e i z size bytes ht hi hz hsize hby hzs hsz v n xs hs hown y m news hx hsrc h63 hbytes hbase fun v' w' h2 h3 h4 h5=>hK _ _ (h v' w' h2 h3 h4 h5)
end
theorem grownBy_setCell {w:World} (p:Addr) (u:Value):w.grownBy (w.setCell p u) (some p.block) :=
 ⟨rfl,rfl,rfl,by simp [World.setCell],fun k hk hn=>Below.heap_setCell _ _ _ _ (fun e=>hn (by rw [e]))⟩
theorem IH0 {w w1:World} {r:Option Nat} (h:Below w.heap.size w w1):w.grownBy w1 r:=⟨h.os,h.tape,h.output,h.size,fun i hi _=>h.block i hi⟩
theorem grownBy_refl (w:World) (r:Option Nat):w.grownBy w r:=⟨rfl,rfl,rfl,Nat.le_refl _,fun _ _ _=>rfl⟩
section
variable {P:Program} (w:World)
theorem DJ0 (base:Nat) (t tx ty e:TypeId) (i:TypeInfo) (z:Value) (size bytes:Nat) (ht:P.underlying t=some (.slice e)) (hi:P.info? e=some i) (hz:i.zero=some z)
 (hsize:i.size=size) (hby:i.bytes=bytes) (hzs:z.cells.size=size)
 (g n:Nat) (xs:List Value) (hown:w.ownsRow base e size (.slice (some ⟨g,0,none⟩) n n) n xs)
 (x:Value) (m:Nat) (news:List Value) (hs:Src P size tx x m news w)
 (h63:n+m≤maxLen) (hbytes:(n+m)*bytes≤140737488355328) (hbase:base≤w.heap.size) :
 ∃ v' w',(Builtin.append_ #[t,tx] ty #[.slice (some ⟨g,0,none⟩) n n,x]).run P w = .ok v' w'∧w'.ownsRow base e size v' (n+m) (xs++news)∧Below w.heap.size w w':=by
 subst hsize;subst hby;have hl:=hs.newsLen
 have hsmall:n+m≤9223372036854775807:=by simp only [maxLen] at h63;omega
 have hlen:(xs++news).length=(n+m)*i.size:=by rw [List.length_append,hown.1,hl,Nat.add_mul]
 rcases hown.2 with ⟨h,_⟩ | ⟨g',cap,cur,h,hbg,hg,hnc,hcm,hcs,htake⟩
 ·cases h
 ·cases h
  by_cases hm:m=0
  ·subst hm
   have hn:news=[]:=List.eq_nil_of_length_eq_zero (by simpa using hl)
   subst hn
   have hst:=run_storeCells_at P g (n*i.size) e [] 0 cur w hg (by simp [hcs]) hs.one
   simp only [Nat.add_zero] at hst
   have hself:(cur.toList.take (n*i.size)++[]++cur.toList.drop (n*i.size+0)).toArray=cur:=by
    rw [List.append_nil,Nat.add_zero,List.take_append_drop]
   simp only [List.length_nil,hself,setRow_self w g cur e (0,0) hg] at hst
   have hr:(Builtin.append_ #[t,tx] ty #[.slice (some ⟨g,0,none⟩) n n,x]).run P w = .ok (.slice (some ⟨g,0,none⟩) (n+0) n) w:=by
    rcases hs.kind with ⟨e',hk⟩ | hk <;> simp [Builtin.append_,run_underlying ht,run_underlying hk,sizeOf,typeInfo,hi,hs.len,hs.cells,Addr.add_lit,hst]
   exact ⟨_,_,hr,by simpa using hown,Below.refl _ _⟩
  ·have hge:=grownCap_ge w (n+m) n e
   have hcm':grownCap w (n+m) n e≤maxLen:=grownCap_le_maxLen w (n+m) n e h63
   have holds:∀ j u,xs[j]? = some u→w.drew.cell? ((⟨g,0,none⟩:Addr).add j)=some u:=fun j u hj=>by
    have:=hown.cells (g:=g) rfl j u hj
    simpa using this
   have hr:=run_append_grow_src (P:=P) w t tx ty e i z ht hi hz (some ⟨g,0,none⟩) n n xs (run_firstCells_some w.drew i.size n _ n n xs hown.1 holds) x m news hs (by omega) (by omega) (growslice_fits (by omega) hbytes)
   refine ⟨_,_,hr,⟨hlen,.inr ⟨w.heap.size,_,_,rfl,hbase,heap_alloc_new w.drew _,hge,hcm', ?_, ?_⟩⟩,(Below.refl _ _).drew.alloc (Nat.le_refl _) _⟩
   ·rw [Array.size_append,List.size_toArray,size_zeroCells,hzs,hlen,← Nat.add_mul]
    congr 1
    omega
   ·rw [Array.toList_append,← hlen]
    exact List.take_left
end
open Go.BigFrame
theorem Ci (b:UInt8):b.toNat<256:=by have:=b.toNat_lt;omega
theorem Xf:(Value.int .u8 0).cells.size=1:=by kernel_rfl
theorem infoByte:(Tryz.prog.info? 5).map (fun i=>(i.zero,i.size,i.bytes))=some (some (.int .u8 0),1,1):=by kernel_rfl
def beK:Nat→Nat→List UInt8
 | _,0=>[]
 | n,k+1=>beK (n / 256) k++[UInt8.ofNat n]
theorem Az:∀ (k n:Nat),(beK n k).length=k
 | 0,_=>rfl
 | k+1,n=>by simp [beK,Az k]
theorem Zv (n:Nat):beK n 2=[UInt8.ofNat (n / 256),UInt8.ofNat n]:=rfl
theorem RI0 (n:Nat):beK n 4=beK (n / 65536) 2++beK n 2:=by
 have e1:n / 256 / 256=n / 65536:=by omega
 have e2:n / 256 / 256 / 256=n / 65536 / 256:=by omega
 simp only [Zv,beK,List.nil_append,List.append_assoc,List.cons_append,e2,e1]
def u8v (b:UInt8):Value:=.int .u8 (b.toNat:Nat)
def u8s (l:List UInt8):List Value:=l.map u8v
theorem Ur (a b:List UInt8):u8s (a++b)=u8s a++u8s b:=by simp [u8s]
theorem Jy (l:List UInt8):(u8s l).length=l.length:=by simp [u8s]
theorem YU0 {l:List UInt8}:∀ v∈u8s l,v.oneCell'=true:=fun v hv=>by
 obtain ⟨b,_,rfl⟩:=List.mem_map.1 hv;rfl
theorem CG0 (l:List UInt8) (j:Nat):(u8s l)[j]? = (l[j]?).map u8v:=by simp [u8s]
theorem Lc (n:Nat):((UInt8.ofNat n).toNat:Int)=(n:Int) % 256:=by
 rw [UInt8.toNat_ofNat'];omega
def BS (w:World) (A:Option Addr) (n:Nat) (l:List UInt8):Prop :=
 l.length=n∧(0<n→∃ b off,A=some ⟨b,off,none⟩∧b<w.heap.size∧∀ i v,l[i]? = some v→w.cell? ⟨b,off+i,none⟩=some (u8v v))
section
variable {w w':World} {A:Option Addr} {n:Nat} {l:List UInt8}
theorem BS.keep (h:BS w A n l) (hb:Below w.heap.size w w'):BS w' A n l :=
 ⟨h.1,fun hn=>by
   obtain ⟨b,off,hA,hl,hc⟩:=h.2 hn
   exact ⟨b,off,hA,Nat.lt_of_lt_of_le hl hb.size,fun i v hv=>(hb.cell (p:=⟨b,off+i,none⟩) hl).trans (hc i v hv)⟩⟩
theorem BS.GA0 {g:Nat} {t:TypeId} (h:Has w g t (u8s l).toArray):BS w (some ⟨g,0,none⟩) l.length l :=
 ⟨rfl,fun _=>⟨g,0,rfl,h.lt,fun i v hv=>by rw [Nat.zero_add,h.cell];simp [CG0,hv]⟩⟩
theorem addr_add (b off j:Nat):(⟨b,off,none⟩:Addr).add j=⟨b,off+j,none⟩:=by unfold Addr.add;split <;> simp_all
theorem BS.src {c:Nat} (h:BS w A n l) {e' tx:TypeId} {P:Program} (hk:P.underlying tx=some (.slice e')):Src P 1 tx (.slice A n c) n (u8s l) w:=by
 rcases Nat.eq_zero_or_pos n with rfl | hn
 ·have hv:l=[]:=List.eq_nil_of_length_eq_zero h.1
  subst hv
  cases A with
  | none=>exact Src.ofNil w hk c
  | some a=>exact Src.ofSlice w hk a 0 c [] rfl (fun j u hu=>by simp at hu) (fun u hu=>by simp at hu)
 ·obtain ⟨b,off,rfl,hb,hc⟩:=h.2 hn
  exact Src.ofSlice w hk _ n c _ (by simp [u8s,h.1]) (fun j u hu=>by
   rw [addr_add];rw [CG0] at hu;obtain ⟨v,hv,rfl⟩:=Option.map_eq_some_iff.1 hu
   exact hc j v hv) YU0
theorem BS.Dv {base:Nat} {e:TypeId} {v:Value} (h:w.ownsRow base e 1 v n (u8s l)):∃ A c,v = .slice A n c∧n≤c∧BS w A n l:=by
 have hl:l.length=n:=by have:=h.1;simp [u8s] at this;exact this
 rcases h.2 with ⟨rfl,h0⟩ | ⟨g,cap,cur,rfl,hb,hgg,hnc,_⟩
 ·subst h0
  exact ⟨none,0,rfl,Nat.le_refl _,hl,fun h=>absurd h (by omega)⟩
 ·refine ⟨_,_,rfl,hnc,hl,fun _=>⟨g,0,rfl,(Array.getElem?_eq_some_iff.1 hgg).1,fun i u hu=>?_⟩⟩
  have:=h.cells (g:=g) rfl i (u8v u) (by rw [CG0,hu];rfl)
  rw [addr_add] at this;exact this
end
def UG0 (w:World) (l:List UInt8) (e:Ending) (w':World):Prop:=∃ A c,e = .returned (.slice A l.length c)∧BS w' A l.length l∧Below w.heap.size w w'
theorem Xd {P:Program} {w:World} {ops:Array Oper} {rest:List Oper} {o:Oper} {a:Act} {Q:Exit→Act→World→Prop} (hgd:o.guard=none) (s x:Operand) (t tx:TypeId)
 (ho:o.op = .call { callee:=.builtin .append,args:=#[s,x],argTypes:=#[t,tx] })
 (base:Nat) (e:TypeId) (i:TypeInfo) (z:Value) (size bytes:Nat) (ht:P.underlying t=some (.slice e)) (hi:P.info? e=some i) (hz:i.zero=some z)
 (hsize:i.size=size) (hby:i.bytes=bytes) (hzs:z.cells.size=size)
 (g n:Nat) (xs:List Value) (hs:a.eval s = .slice (some ⟨g,0,none⟩) n n) (hown:w.ownsRow base e size (.slice (some ⟨g,0,none⟩) n n) n xs)
 (y:Value) (m:Nat) (news:List Value) (hx:a.eval x=y) (hsrc:Src P size tx y m news w)
 (h63:n+m≤maxLen) (hbytes:(n+m)*bytes≤140737488355328) (hbase:base≤w.heap.size)
 (h:∀ A c w',w'.ownsRow base e size (.slice A (n+m) c) (n+m) (xs++news)→Below w.heap.size w w'→wpList P ops Q rest (a.put o.dst (.slice A (n+m) c)) w'):wpList P ops Q (o :: rest) a w:=by
 refine wpList_plain hgd fun K hK=>?_
 obtain ⟨v',w',hr,h2,h3⟩:=DJ0 (P:=P) w base t tx o.type e i z size bytes ht hi hz hsize hby hzs g n xs hown y m news hsrc h63 hbytes hbase
 obtain ⟨A,c,rfl⟩:∃ A c,v' = .slice A (n+m) c:=by
  rcases h2.2 with ⟨hv,h0⟩ | ⟨g,cap,cur,hv,_⟩
  ·exact ⟨none,0,by rw [hv,h0]⟩
  ·exact ⟨_,_,hv⟩
 unfold Oper.wp execOp;simp only [ho,resolve,invoke,builtin,Sem.run_bind,Sem.run_pure,Result.andThen_ok,List.map_toArray,List.map_cons,List.map_nil,hs,hx,hr];exact hK _ _ (h A c w' h2 h3)
theorem Has.own {w:World} {g:Nat} {t:TypeId} {l:List Value} {B n:Nat} (h:Has w g t l.toArray) (hB:B≤g) (hn:l.length=n) (hm:n≤maxLen):w.ownsRow B t 1 (.slice (some ⟨g,0,none⟩) n n) n l :=
 ⟨by omega,.inr ⟨g,n,l.toArray,rfl,hB,h,Nat.le_refl _,hm,by simp [hn],by simp [← hn]⟩⟩
def bsOf (l:List UInt8):ByteArray:=⟨l.toArray⟩
theorem Ha (l:List UInt8):(bsOf l).data.toList=l:=by simp [bsOf]
theorem Bv (l:List UInt8):(bsOf l).size=l.length:=by simp [bsOf,ByteArray.size]
theorem Ri (a b:List UInt8):bsOf a++bsOf b=bsOf (a++b):=ByteArray.mk_append_mk _ _
theorem IE0 (s:ByteArray):bsOf s.data.toList=s:=by simp [bsOf]
theorem MO0 (l:List UInt8):strOfNums (l.map fun b=>(b.toNat:Int))=bsOf l:=by
 unfold strOfNums bsOf;rw [List.map_map]
 congr 2
 rw [show ((fun n:Int=>UInt8.ofNat n.toNat) ∘ fun b:UInt8=>(b.toNat:Int))=id by funext b;simp]
 simp
theorem Wv {w:World} {A:Option Addr} {n c:Nat} {l:List UInt8} (h:BS w A n l):(convert 39 9 (.slice A n c)).run Tryz.prog w = .ok (.string (bsOf l)) w:=by
 rcases Nat.eq_zero_or_pos n with rfl | hn
 ·have hv:l=[]:=List.eq_nil_of_length_eq_zero h.1
  subst hv
  cases A with
  | none=>exact run_convert_bytes_nil w _ _ Tryz.underlying39 Tryz.underlying5 0 c _ Tryz.underlying9
  | some a =>
    have hl:(loadCells a 0).run Tryz.prog w = .ok (([]:List Int).map (Value.int .u8)).toArray w:=by
     have:=run_loadCells_list (P:=Tryz.prog) w a [] (fun j v hj=>by simp at hj)
     simpa using this
    rw [run_convert_bytes_string w _ _ _ _ 0 c Tryz.underlying39 Tryz.underlying5 Tryz.underlying9,run_bytesToString w a 0 c [] hl]
    rfl
 ·obtain ⟨b,off,rfl,hb,hc⟩:=h.2 hn
  have:=run_convert_bytes_arg (P:=Tryz.prog) w 39 5 Tryz.underlying39 Tryz.underlying5 b off n c (l.map fun b=>(b.toNat:Int)) (by simpa using h.1) (fun i hi=>by
   have hl:i<l.length:=by rw [h.1];exact hi
   rw [hc i l[i] (by simp [hl])]
   simp [u8v,hl]) _ Tryz.underlying9
  rw [MO0] at this;exact this
def unK (l:List UInt8):Nat:=l.foldl (fun n b=>256*n+b.toNat) 0
theorem IL0 (l:List UInt8) (b:UInt8):unK (l++[b])=256*unK l+b.toNat:=by simp [unK]
theorem EC0:∀ (k:Nat) (l:List UInt8),l.length=k→unK l<256 ^ k
 | 0,l,h=>by rw [List.eq_nil_of_length_eq_zero h];decide
 | k+1,l,h=>by
   rcases List.eq_nil_or_concat l with rfl | ⟨m,b,rfl⟩
   ·simp at h
   ·have h2:m.length=k:=by simpa using h
    have:=EC0 k m h2;have hb:=Ci b;rw [List.concat_eq_append,IL0,Nat.pow_succ];omega
end Go.Proofs.YtjihboddejaelaaGreat
namespace Go.Proofs.YtjihboddejaelaaGreat
open Go.RowKit
structure Ch where
 file:Nat
 at_:Nat
 text:ByteArray
 cut:Bool
def Dy (l:List UInt8) (n:Nat):List UInt8:=l++List.replicate (n-l.length) 0
def EN0 (l:List UInt8) (a:Nat) (t:List UInt8):List UInt8:=(Dy l (a+t.length)).take a++t++(Dy l (a+t.length)).drop (a+t.length)
def Ch.done (c:Ch) (l:List UInt8):List UInt8:=if c.cut then (Dy l c.at_).take c.at_ else EN0 l c.at_ c.text.data.toList
theorem Qy (l:List UInt8) (n:Nat):(Dy l n).length=max l.length n:=by
 unfold Dy;rw [List.length_append,List.length_replicate];omega
theorem DW0 {l:List UInt8} {n:Nat} (h:n≤l.length):Dy l n=l:=by
 unfold Dy;rw [show n-l.length=0 by omega];simp
theorem AG0 {l:List UInt8} {n m:Nat} (h:l.length≤m) (h2:m<n):Dy l m++[0]=Dy l (m+1):=by
 unfold Dy
 rw [List.append_assoc,show m+1-l.length=(m-l.length)+1 by omega,List.replicate_succ']
theorem Ox (l:List UInt8) (a:Nat) (t:List UInt8):(EN0 l a t).length=max l.length (a+t.length):=by
 unfold EN0;rw [List.length_append,List.length_append,List.length_take,List.length_drop,Qy];omega
theorem AN1 (c:Ch) (l:List UInt8):(c.done l).length≤max l.length (c.at_+c.text.size):=by
 unfold Ch.done
 split
 ·rw [List.length_take,Qy];omega
 ·rw [Ox,Array.length_toList];exact Nat.le_refl _
def Ch.fits (c:Ch):Prop:=c.file<2∧c.at_≤67108864∧c.at_+c.text.size≤67108864∧(c.cut=true→c.text.size=0)
theorem CX0 {c:Ch} {l:List UInt8} (h:c.fits) (hl:l.length≤67108864):(c.done l).length≤67108864:=by
 have:=AN1 c l;have:=h.2.2.1;omega
def Ou:List Ch→Nat→List UInt8→List UInt8
 | [],_,l=>l
 | c :: ws,f,l=>Ou ws f (if c.file=f then c.done l else l)
theorem AK0:∀ (ws us:List Ch) (f:Nat) (l:List UInt8),Ou (ws++us) f l=Ou us f (Ou ws f l)
 | [],us,f,l=>rfl
 | c :: ws,us,f,l=>by rw [List.cons_append,Ou,AK0 ws us];rfl
theorem SI0 (ws:List Ch) (c:Ch) (f:Nat) (l:List UInt8):Ou (ws++[c]) f l=if c.file=f then c.done (Ou ws f l) else Ou ws f l:=by
 rw [AK0];rfl
theorem GH0:∀ (ws:List Ch) (f:Nat) (l:List UInt8),(∀ c∈ws,c.fits)→l.length≤67108864→(Ou ws f l).length≤67108864
 | [],f,l,_,hl=>hl
 | c :: ws,f,l,h,hl=>by
   rw [Ou]
   refine GH0 ws f _ (fun d hd=>h d (List.mem_cons_of_mem _ hd)) ?_
   split
   ·exact CX0 (h c (List.mem_cons_self ..)) hl
   ·exact hl
theorem Ui:∀ (ws:List Ch) (f k:Nat) (l:List UInt8),f≠k→Ou (ws.filter (fun c=>decide (c.file≠k))) f l=Ou ws f l
 | [],f,k,l,_=>rfl
 | c :: ws,f,k,l,h=>by
   by_cases hc:c.file=k
   ·rw [List.filter_cons_of_neg (by simp [hc]),Ui ws f k l h,Ou,if_neg (by rw [hc];exact fun e=>h e.symm)]
   ·rw [List.filter_cons_of_pos (by simp [hc]),Ou,Ou,Ui ws f k _ h]
theorem Jz:∀ (ws:List Ch) (f:Nat) (l:List UInt8),Ou (ws.filter (fun c=>decide (c.file≠f))) f l=l
 | [],f,l=>rfl
 | c :: ws,f,l=>by
   by_cases hc:c.file=f
   ·rw [List.filter_cons_of_neg (by simp [hc]),Jz ws f l]
   ·rw [List.filter_cons_of_pos (by simp [hc]),Ou,if_neg hc,Jz ws f l]
structure Dk where
 l0:List UInt8
 l1:List UInt8
 waits:List Ch
 fails:Int
 down:Bool
 count:Nat
def Dk.lasts (D:Dk) (f:Nat):List UInt8:=if f=0 then D.l0 else D.l1
def Dk.seen (D:Dk) (f:Nat):List UInt8:=Ou D.waits f (D.lasts f)
structure Dk.ok (D:Dk):Prop where
 l0:D.l0.length≤67108864
 l1:D.l1.length≤67108864
 waits:∀ c∈D.waits,c.fits
 fails : -1≤D.fails∧D.fails≤9223372036854775807
theorem Dk.ok.lasts {D:Dk} (h:D.ok) (f:Nat):(D.lasts f).length≤67108864:=by
 unfold Dk.lasts;split
 ·exact h.l0
 ·exact h.l1
theorem Dk.ok.seen {D:Dk} (h:D.ok) (f:Nat):(D.seen f).length≤67108864:=GH0 _ _ _ h.waits (h.lasts f)
def Dk.stops (D:Dk):Prop:=D.down=true∨D.fails=0
instance (D:Dk):Decidable D.stops:=by unfold Dk.stops;infer_instance
def Dk.turn (D:Dk):Dk:=if D.stops then { D with down:=true } else { D with fails:=if 0<D.fails then D.fails-1 else D.fails,count:=D.count+1 }
def Dk.Ec (D:Dk):Int:=if D.stops then 2 else 0
theorem Dk.HU0 {D:Dk} (h:D.ok):D.turn.ok:=by
 obtain ⟨h1,h2,h3,h4,h5⟩:=h;unfold Dk.turn
 split
 ·exact ⟨h1,h2,h3,h4,h5⟩
 ·refine ⟨h1,h2,h3, ?_⟩
  show -1≤(if 0<D.fails then D.fails-1 else D.fails)∧(if 0<D.fails then D.fails-1 else D.fails)≤9223372036854775807
  split <;> omega
def Dk.change (D:Dk) (c:Ch):Dk:=if D.stops then D.turn else { D.turn with waits:=D.waits++[c] }
theorem Dk.DM0 {D:Dk} {c:Ch} (h:D.ok) (hc:c.fits):(D.change c).ok:=by
 unfold Dk.change
 split
 ·exact Dk.HU0 h
 ·have ht:=Dk.HU0 h
  exact ⟨ht.l0,ht.l1,fun d hd=>by
   rcases List.mem_append.1 hd with hd | hd
   ·exact h.waits d hd
   ·rw [List.mem_singleton.1 hd];exact hc,ht.fails⟩
def Lr (f a n:Int):Prop:=0≤f∧f<2∧0≤a∧0≤n∧a≤67108864∧n≤67108864-a
instance (f a n:Int):Decidable (Lr f a n):=by unfold Lr;infer_instance
def Dk.write (D:Dk) (f a:Int) (s:ByteArray):Dk:=if Lr f a s.size then D.change ⟨f.toNat,a.toNat,s,false⟩ else D
def Dk.Pn (D:Dk) (f a:Int) (s:ByteArray):Int:=if Lr f a s.size then D.Ec else 1
def Dk.Uu (D:Dk) (f a:Int):Dk:=if Lr f a 0 then D.change ⟨f.toNat,a.toNat,⟨#[]⟩,true⟩ else D
def Dk.ES1 (D:Dk) (f a:Int):Int:=if Lr f a 0 then D.Ec else 1
def Dk.Qg (D:Dk) (f:Nat):Dk:={ D.turn with l0:=if f=0 then D.seen 0 else D.l0,l1:=if f=0 then D.l1 else D.seen 1,waits:=D.waits.filter (fun c=>decide (c.file≠f)) }
def Dk.sync (D:Dk) (f:Int):Dk:=if 0≤f∧f<2 then (if D.stops then D.turn else D.Qg f.toNat) else D
def Dk.Py (D:Dk) (f:Int):Int:=if 0≤f∧f<2 then D.Ec else 1
def Dk.Gy (D:Dk) (f a n:Int):ByteArray:=if Lr f a n∧D.down=false∧a+n≤(D.seen f.toNat).length then bsOf (((D.seen f.toNat).drop a.toNat).take n.toNat) else ⟨#[]⟩
def Dk.Ej (D:Dk) (f a n:Int):Int:=if Lr f a n then (if D.down=true then 2 else if a+n≤(D.seen f.toNat).length then 0 else 3) else 1
def Dk.Wl (D:Dk) (f:Int):Int:=if 0≤f∧f<2∧D.down=false then (D.seen f.toNat).length else 0
def Dk.Si (D:Dk) (f:Int):Int:=if 0≤f∧f<2 then (if D.down=true then 2 else 0) else 1
def CJ1 (keep:List Int) (i:Nat):Int:=if keep.length=0 then 0 else keep.getD (i % keep.length) 0
def Ch.half (c:Ch):Ch:=if c.cut then c else { c with text:=c.text.extract 0 (c.text.size / 2) }
def Jq (c:Ch) (how:Int) (l:List UInt8) (f:Nat):List UInt8:=if c.file=f then (if how=1 then c.done l else if how=2 then c.half.done l else l) else l
def Gv (keep:List Int):List Ch→Nat→Nat→List UInt8→List UInt8
 | [],_,_,l=>l
 | c :: ws,i,f,l=>Gv keep ws (i+1) f (Jq c (CJ1 keep i) l f)
def Dk.Fj (D:Dk) (keep:List Int):Dk:=⟨Gv keep D.waits 0 0 D.l0,Gv keep D.waits 0 1 D.l1,[], -1,false,D.count⟩
theorem Yq (keep:List Int):∀ (ws us:List Ch) (i f:Nat) (l:List UInt8),Gv keep (ws++us) i f l=Gv keep us (i+ws.length) f (Gv keep ws i f l)
 | [],us,i,f,l=>by simp [Gv]
 | c :: ws,us,i,f,l=>by
   rw [List.cons_append,Gv,Yq keep ws us,Gv,List.length_cons]
   congr 1;omega
theorem UJ0 {c:Ch} (h:c.fits):c.half.fits:=by
 unfold Ch.half
 split
 ·exact h
 ·rename_i hc
  refine ⟨h.1,h.2.1, ?_,fun h2=>absurd h2 hc⟩
  have:=h.2.2.1
  show c.at_+(c.text.extract 0 (c.text.size / 2)).size≤_
  rw [ByteArray.size_extract];omega
theorem OI0 {c:Ch} {how:Int} {l:List UInt8} {f:Nat} (h:c.fits) (hl:l.length≤67108864):(Jq c how l f).length≤67108864:=by
 unfold Jq
 split
 ·split
  ·exact CX0 h hl
  ·split
   ·exact CX0 (UJ0 h) hl
   ·exact hl
 ·exact hl
theorem Xa (keep:List Int):∀ (ws:List Ch) (i f:Nat) (l:List UInt8),(∀ c∈ws,c.fits)→l.length≤67108864→(Gv keep ws i f l).length≤67108864
 | [],_,_,_,_,hl=>hl
 | c :: ws,i,f,l,h,hl=>Xa keep ws _ f _ (fun d hd=>h d (List.mem_cons_of_mem _ hd)) (OI0 (h c (List.mem_cons_self ..)) hl)
theorem Dk.BK1 {D:Dk} (h:D.ok) (keep:List Int):(D.Fj keep).ok :=
 ⟨Xa _ _ _ _ _ h.waits h.l0,Xa _ _ _ _ _ h.waits h.l1,(fun c hc=>by cases hc),by show -1≤(-1:Int)∧(-1:Int)≤9223372036854775807;omega⟩
theorem Dk.Vx {D:Dk} (h:D.ok) (f:Int):(D.sync f).ok:=by
 unfold Dk.sync
 split
 ·split
  ·exact Dk.HU0 h
  ·have ht:=Dk.HU0 h
   refine ⟨?_, ?_,fun c hc=>h.waits c (List.mem_filter.1 hc).1,ht.fails⟩
   ·show (if f.toNat=0 then D.seen 0 else D.l0).length≤_
    split
    ·exact h.seen 0
    ·exact h.l0
   ·show (if f.toNat=0 then D.l1 else D.seen 1).length≤_
    split
    ·exact h.l1
    ·exact h.seen 1
 ·exact h
theorem Dk.BE0 {D:Dk} (h:D.ok) (f a:Int) (s:ByteArray):(D.write f a s).ok:=by
 unfold Dk.write
 split
 ·rename_i hf
  obtain ⟨h1,h2,h3,h4,h5,h6⟩:=hf
  exact Dk.DM0 h ⟨by show f.toNat<2;omega,by show a.toNat≤_;omega,by show a.toNat+s.size≤_;omega,fun h=>by cases h⟩
 ·exact h
theorem Dk.BZ1 {D:Dk} (h:D.ok) (f a:Int):(D.Uu f a).ok:=by
 unfold Dk.Uu
 split
 ·rename_i hf
  obtain ⟨h1,h2,h3,h4,h5,h6⟩:=hf
  exact Dk.DM0 h ⟨by show f.toNat<2;omega,by show a.toNat≤_;omega,by show a.toNat+0≤_;omega,fun _=>rfl⟩
 ·exact h
theorem Dk.FT0 (D:Dk) (f k:Nat) (hf:f<2) (hk:k<2):(D.Qg f).seen k=D.seen k:=by
 unfold Dk.Qg Dk.seen Dk.lasts;simp only
 by_cases h:k=f
 ·subst h
  rw [Jz]
  rcases (show k=0∨k=1 by omega) with rfl | rfl <;> rfl
 ·rw [Ui _ _ _ _ h]
  rcases (show k=0∧f=1∨k=1∧f=0 by omega) with ⟨rfl,rfl⟩ | ⟨rfl,rfl⟩ <;> rfl
theorem Dk.JU0 (D:Dk) (k:Nat):D.turn.seen k=D.seen k:=by
 unfold Dk.turn;split <;> rfl
theorem Dk.Vt (D:Dk) (c:Ch) (h:¬ D.stops) (k:Nat):(D.change c).seen k=if c.file=k then c.done (D.seen k) else D.seen k:=by
 unfold Dk.change;rw [if_neg h]
 show Ou (D.waits++[c]) k (D.turn.lasts k)=_
 rw [SI0]
 have:D.turn.lasts k=D.lasts k:=by unfold Dk.turn;split <;> rfl
 rw [this];rfl
def Aw (l:List UInt8) (a n:Nat):List UInt8:=(l.drop a).take n
theorem Dx (l:List UInt8) (a n i:Nat):(Aw l a n)[i]? = if i<n then l[a+i]? else none:=by
 unfold Aw;rw [List.getElem?_take]
 split
 ·rw [List.getElem?_drop]
 ·rfl
theorem Fh (l:List UInt8) (a n:Nat):(Aw l a n).length=min n (l.length-a):=by
 unfold Aw;rw [List.length_take,List.length_drop]
theorem Vu (l:List UInt8) (n i:Nat) (h:i<l.length):(Dy l n)[i]? = l[i]? := by
 unfold Dy;rw [List.getElem?_append_left h]
theorem Un (l:List UInt8) (a:Nat) (t:List UInt8) (i:Nat):(EN0 l a t)[i]? = if a≤i∧i<a+t.length then t[i-a]? else (Dy l (a+t.length))[i]? := by
 have hz:=Qy l (a+t.length);unfold EN0
 have e1:((Dy l (a+t.length)).take a).length=a:=by rw [List.length_take,hz];omega
 by_cases h1:i<a
 ·rw [if_neg (by omega),List.append_assoc,List.getElem?_append_left (by rw [e1];exact h1),List.getElem?_take,if_pos h1]
 ·by_cases h2:i<a+t.length
  ·rw [if_pos ⟨by omega,h2⟩,List.append_assoc,List.getElem?_append_right (by rw [e1];omega),e1,List.getElem?_append_left (by omega)]
  ·rw [if_neg (by omega),List.getElem?_append_right (by rw [List.length_append,e1];omega),List.length_append,e1,List.getElem?_drop]
   congr 1;omega
theorem Jm {l:List UInt8} {a:Nat} {t:List UInt8} {b n:Nat} (hl:b+n≤l.length) (h:b+n≤a∨a+t.length≤b):Aw (EN0 l a t) b n=Aw l b n:=by
 refine List.ext_getElem? fun i=>?_
 rw [Dx,Dx]
 split
 ·rw [Un,if_neg (by omega),Vu _ _ _ (by omega)]
 ·rfl
theorem Qa (l:List UInt8) (a:Nat) (t:List UInt8):Aw (EN0 l a t) a t.length=t:=by
 refine List.ext_getElem? fun i=>?_
 rw [Dx]
 split
 ·rw [Un,if_pos ⟨by omega,by omega⟩];congr 1;omega
 ·rw [List.getElem?_eq_none (by omega)]
theorem Gj {l:List UInt8} {a n:Nat} {t:List UInt8} (h:Aw l a n=t) (hn:t.length=n) (h0:0<n):a+n≤l.length:=by
 have:=Fh l a n;rw [h] at this;omega
theorem Zf (l:List UInt8) (a n b m:Nat) (h:b+m≤n):Aw (Aw l a n) b m=Aw l (a+b) m:=by
 refine List.ext_getElem? fun i=>?_
 rw [Dx (Aw l a n),Dx l (a+b)]
 split
 ·rw [Dx,if_pos (by omega)];congr 1;omega
 ·rfl
structure Fr where
 n:Nat
 text:ByteArray
def Fr.bytes (f:Fr):List UInt8:=beK f.n 4++f.text.data.toList
theorem Fr.Gx (f:Fr) (h:f.text.size=1024):f.bytes.length=1028:=by
 unfold Fr.bytes;rw [List.length_append,Az,Array.length_toList,show f.text.data.size=f.text.size from rfl,h]
def Bc:List Fr→Int→Nat
 | [],_=>0
 | f :: fs,x=>if Bc fs x≠0 then Bc fs x+1 else if (f.n:Int)=x then 1 else 0
theorem Ye:∀ (fs:List Fr) (x:Int),Bc fs x≤fs.length
 | [],_=>Nat.le_refl _
 | f :: fs,x=>by
   have:=Ye fs x;rw [Bc,List.length_cons]
   split
   ·omega
   ·split <;> omega
theorem Nv:∀ (fs:List Fr) (f:Fr) (x:Int),Bc (fs++[f]) x=if (f.n:Int)=x then fs.length+1 else Bc fs x
 | [],f,x=>by simp [Bc]
 | g :: fs,f,x=>by
   rw [List.cons_append,Bc,Nv fs f x]
   by_cases h:(f.n:Int)=x
   ·simp [h]
   ·rw [if_neg h,if_neg h,Bc]
theorem FM0:∀ (fs:List Fr) (x:Int),Bc fs x≠0→∃ f,fs[Bc fs x-1]? = some f∧(f.n:Int)=x
 | [],x,h=>absurd rfl h
 | g :: fs,x,h=>by
   rw [Bc] at h ⊢
   by_cases h2:Bc fs x≠0
   ·rw [if_pos h2]
    obtain ⟨f,h3,h4⟩:=FM0 fs x h2
    refine ⟨f, ?_,h4⟩
    rw [show Bc fs x+1-1=(Bc fs x-1)+1 by omega,List.getElem?_cons_succ];exact h3
   ·rw [if_neg h2] at h ⊢
    by_cases h3:(g.n:Int)=x
    ·rw [if_pos h3];exact ⟨g,rfl,h3⟩
    ·rw [if_neg h3] at h;exact absurd rfl h
def slotL (n f p:Nat):List UInt8:=(beK n 4++beK f 4++beK p 4)++(beK n 4++beK f 4++beK p 4)
theorem Ed (n f p:Nat):(slotL n f p).length=24:=by simp [slotL,Az]
def Hu:List UInt8:=[114,101,108,115,116,111,114,101,32,108,111,103,32,48,48,49]
def Ap (l:List UInt8) (k:Nat):Nat×Nat×Nat :=
 if l.length<40+24*k then (0,0,0) else
 let t:=Aw l (16+24*k) 24
 let n:=unK (t.take 4)
 let f:=unK (Aw t 4 4)
 let p:=unK (Aw t 8 4)
 if t.take 12≠t.drop 12∨¬ (1≤n∧n≤3)∨0<f∧l.length<64+1028*f then (0,0,0) else (n,f,p)
def Bj (l:List UInt8):Nat :=
 if l.take 16≠Hu∨(Ap l 0).1=0∧(Ap l 1).1=0 then 2
 else if (Ap l 0).1=0∨(Ap l 1).1≠0∧(Ap l 1).1=(Ap l 0).1 % 3+1 then 1 else 0
structure Lg where
 D:Dk
 fs:List Fr
 kept:Nat
 pages:Nat
 slot:Nat
 number:Nat
structure Lg.ok (L:Lg):Prop where
 disk:L.D.ok
 frames:∀ f∈L.fs,f.n<4294967296∧f.text.size=1024
 lies:∀ i f,L.fs[i]? = some f→Aw (L.D.seen 1) (64+1028*i) 1028=f.bytes
 top:64+1028*L.fs.length≤67108864∨L.fs=[]
 kept:L.kept≤L.fs.length
 pages:L.pages<4294967296
 slot:L.slot<2
 number:L.number<4
theorem Lg.ok.len {L:Lg} (h:L.ok):L.fs.length≤65281:=by
 rcases h.top with h | h
 ·omega
 ·rw [h];show 0≤65281;omega
def Lg.Gy (L:Lg) (n:Int):ByteArray :=
 if 0≤n∧n≤2147483647∧L.D.down=false then
  if Bc L.fs n≠0 then ((L.fs[Bc L.fs n-1]?).map (·.text)).getD ⟨#[]⟩
  else if n<((L.D.seen 0).length / 1024:Nat) then bsOf (Aw (L.D.seen 0) (1024*n.toNat) 1024) else ⟨#[]⟩
 else ⟨#[]⟩
def Lg.Ej (L:Lg) (n:Int):Int :=
 if 0≤n∧n≤2147483647 then
  if L.D.down=true then 2 else if Bc L.fs n≠0 then 0 else if n<((L.D.seen 0).length / 1024:Nat) then 0 else 7
 else 1
def Lg.NS0 (L:Lg) (n:Int) (t:ByteArray):Prop:=0≤n∧n≤2147483647∧t.size=1024
instance (L:Lg) (n:Int) (t:ByteArray):Decidable (L.NS0 n t):=by unfold Lg.NS0;infer_instance
def Lg.at_ (L:Lg):Nat:=64+1028*L.fs.length
def Lg.append (L:Lg) (n:Int) (t:ByteArray):Lg :=
 if L.NS0 n t∧L.at_+1028≤67108864 then
  { L with D:=L.D.write 1 L.at_ (bsOf (Fr.bytes ⟨n.toNat,t⟩)),fs:=if L.D.stops then L.fs else L.fs++[⟨n.toNat,t⟩] }
 else L
def Lg.Dq (L:Lg) (n:Int) (t:ByteArray):Int:=if L.NS0 n t then (if L.at_+1028≤67108864 then L.D.Ec else 8) else 1
def Lg.Bi (L:Lg) (f p:Nat):Dk:=L.D.write 1 (16+24*(1-L.slot):Nat) (bsOf (slotL (L.number % 3+1) f p))
def Lg.tell (L:Lg) (f p:Nat):Lg :=
 if L.D.stops then { L with D:=L.Bi f p }
 else if (L.Bi f p).stops then { L with D:=(L.Bi f p).sync 1 }
 else { L with D:=(L.Bi f p).sync 1,slot:=1-L.slot,number:=L.number % 3+1,kept:=f,pages:=p }
def Lg.Gl (L:Lg) (f p:Nat):Int:=if L.D.stops then 2 else (L.Bi f p).Ec
def Lg.Eu (L:Lg) (n:Int) (t:ByteArray) (p:Int):Lg :=
 if 1≤p∧p≤65536 then
  if L.Dq n t=0 then
   if (L.append n t).D.stops then { L.append n t with D:=(L.append n t).D.sync 1 }
   else ({ L.append n t with D:=(L.append n t).D.sync 1 }:Lg).tell (L.append n t).fs.length p.toNat
  else L.append n t
 else L
def Lg.Gp (L:Lg) (n:Int) (t:ByteArray) (p:Int):Int :=
 if 1≤p∧p≤65536 then
  if L.Dq n t=0 then
   if (L.append n t).D.stops then 2
   else ({ L.append n t with D:=(L.append n t).D.sync 1 }:Lg).Gl (L.append n t).fs.length p.toNat
  else L.Dq n t
 else 1
def Lg.back (L:Lg):Lg:={ L with fs:=L.fs.take L.kept }
def Lu (l:List UInt8) (k:Nat):Fr:=⟨unK (Aw l (64+1028*k) 4),bsOf (Aw l (64+1028*k+4) 1024)⟩
def Eb (l:List UInt8) (f:Nat):List Fr:=(List.range f).map (Lu l)
def Pz (D:Dk):Dk:=(((D.Uu 1 0).sync 1).write 1 0 (bsOf (Hu++slotL 1 0 ((D.seen 0).length / 1024)))).sync 1
def Lg.opened (D:Dk):Lg :=
 if Bj (D.seen 1)=2 then ⟨Pz D,[],0,(D.seen 0).length / 1024,0,1⟩
 else ⟨D,Eb (D.seen 1) (Ap (D.seen 1) (Bj (D.seen 1))).2.1,(Ap (D.seen 1) (Bj (D.seen 1))).2.1,(Ap (D.seen 1) (Bj (D.seen 1))).2.2,Bj (D.seen 1),(Ap (D.seen 1) (Bj (D.seen 1))).1⟩
open Go.BigFrame
theorem Vo (i x y:Nat) (hx:x % 2 ^ i=0) (hy:y<2 ^ i) (hs:x+y<4611686018427387904):bits .or .i64 (x:Int) (y:Int)=((x+y:Nat):Int):=by
 have h1:(BitVec.ofInt 64 (x:Int)).toNat=x:=by
  rw [BitVec.ofInt_natCast,BitVec.toNat_ofNat];exact Nat.mod_eq_of_lt (by omega)
 have h2:(BitVec.ofInt 64 (y:Int)).toNat=y:=by
  rw [BitVec.ofInt_natCast,BitVec.toNat_ofNat];exact Nat.mod_eq_of_lt (by omega)
 show IntKind.i64.wrap ((BitVec.ofInt 64 (x:Int) ||| BitVec.ofInt 64 (y:Int)).toNat:Int)=_
 rw [BitVec.toNat_or,h1,h2,nat_join i x y hx hy]
 exact IntWalk.i64_in _ ⟨by omega,by omega⟩
theorem FP1 (x:Nat):beK x 4=[UInt8.ofNat (x / 16777216),UInt8.ofNat (x / 65536),UInt8.ofNat (x / 256),UInt8.ofNat x]:=by
 simp only [beK,List.nil_append,List.cons_append,Nat.div_div_eq_div_mul]
theorem ZF0 (n:Nat):u8s (beK n 4)=[.int .u8 ((n:Int) / 16777216 % 256),.int .u8 ((n:Int) / 65536 % 256),.int .u8 ((n:Int) / 256 % 256),.int .u8 ((n:Int) % 256)]:=by
 rw [FP1];simp only [u8s,u8v,List.map_cons,List.map_nil,Lc]
 rw [show ((n / 16777216:Nat):Int)=(n:Int) / 16777216 by omega,show ((n / 65536:Nat):Int)=(n:Int) / 65536 by omega,show ((n / 256:Nat):Int)=(n:Int) / 256 by omega]
theorem LJ0 (w:World) (n:Nat):(convert 39 9 (.slice (some ⟨w.heap.size,0,none⟩) 4 4)).run Tryz.prog (w.alloc (.cells #[.int .u8 ((n:Int) / 16777216 % 256),.int .u8 ((n:Int) / 65536 % 256),.int .u8 ((n:Int) / 256 % 256),.int .u8 ((n:Int) % 256)] 5)) = .ok (.string (bsOf (beK n 4))) (w.alloc (.cells #[.int .u8 ((n:Int) / 16777216 % 256),.int .u8 ((n:Int) / 65536 % 256),.int .u8 ((n:Int) / 256 % 256),.int .u8 ((n:Int) % 256)] 5)):=by
 have:=Wv (c:=4) (BS.GA0 (Has.new w 5 (u8s (beK n 4)).toArray));rw [Az,ZF0] at this;exact this
theorem BD0 (n:Nat) (hn:n≤4611686018427387904) (w:World):Calls Tryz.prog 173 #[.int .i64 n] w fun e w'=>e = .returned (.string (bsOf (beK n 4)))∧Below w.heap.size w w':=by
 have hcv:=LJ0 w n;obtain ⟨S,hS⟩:∃ S,bsOf (beK n 4)=S:=⟨_,rfl⟩;rw [hS] at hcv ⊢
 go_enter Tryz.func173,Tryz.ntmps173
 go_wp2
 go_ret
 exact ⟨rfl,(Below.refl _ _).alloc (Nat.le_refl _) _⟩
theorem FJ1 (a b c d:UInt8) (r:List UInt8):unK ((a :: b :: c :: d :: r).take 4)=a.toNat*16777216+b.toNat*65536+c.toNat*256+d.toNat:=by
 show unK [a,b,c,d]=_
 simp only [unK,List.foldl_cons,List.foldl_nil];omega
theorem Vd (s:ByteArray) (h4:4≤s.size) (w:World):Calls Tryz.prog 114 #[.string s] w fun e w'=>e = .returned (.int .i64 (unK (s.data.toList.take 4):Nat))∧Below w.heap.size w w':=by
 have h0:0<s.size:=by omega
 have h1:1<s.size:=by omega
 have h2:2<s.size:=by omega
 have h3:3<s.size:=by omega
 have hl:s.data.toList=s[0] :: s[1] :: s[2] :: s[3] :: s.data.toList.drop 4:=by
  have e (i:Nat) (h:i<s.size):s.data.toList[i]'(by simpa using h)=s[i]:=by simp [ByteArray.getElem_eq_getElem_data]
  rw [← e 0 h0,← e 1 h1,← e 2 h2,← e 3 h3];rw [← List.drop_eq_getElem_cons,← List.drop_eq_getElem_cons,← List.drop_eq_getElem_cons,← List.drop_eq_getElem_cons];rfl
 have E:=Ac (show unK (s.data.toList.take 4)=s[0].toNat*16777216+s[1].toNat*65536+s[2].toNat*256+s[3].toNat by rw [hl];exact FJ1 _ _ _ _ _)
 clear hl;rw [E.out];have b0:=Ci s[0];have b1:=Ci s[1];have b2:=Ci s[2];have b3:=Ci s[3]
 have O:=Ac (show ∀ a b c d:Nat,a<256→b<256→c<256→d<256→bits .or .i64 (bits .or .i64 (bits .or .i64 ((a:Int)*16777216) ((b:Int)*65536)) ((c:Int)*256)) (d:Int)=((a*16777216+b*65536+c*256+d:Nat):Int) from fun a b c d ha hb hc hd=>by
  have e1:=Vo 24 (a*16777216) (b*65536) (by omega) (by omega) (by omega)
  have e2:=Vo 16 (a*16777216+b*65536) (c*256) (by omega) (by omega) (by omega)
  have e3:=Vo 8 (a*16777216+b*65536+c*256) d (by omega) (by omega) (by omega)
  rw [← e3,← e2,← e1]
  simp only [Int.natCast_mul];rfl)
 have i1:(1:Int)<(s.size:Int):=by omega
 have i2:(2:Int)<(s.size:Int):=by omega
 have i3:(3:Int)<(s.size:Int):=by omega
 go_enter Tryz.func114,Tryz.ntmps114
 go_wp2_with fail
 refine Bz (w) (by kernel_rfl) (by kernel_rfl) (Cls.start _) ?_
 repeat
  first
   | go_big_quiet_skip
   | (go_big_quiet_want;(first | go_big_quiet_op | go_simp);first | go_big_quiet_on | (apply Exists.intro;refine ⟨fun w' hw'=>?_, ?_⟩;(·(first | (with_reducible exact rfl) | (fail) | (obtain ⟨hc,hf⟩:=hw'.facts;go_simp;first | done | (with_reducible exact rfl) | (with_reducible exact ⟨rfl,rfl⟩))));go_big_quiet_on))
 refine wpQuiet_nil ?_
 intro wq hq
 go_wp2_with fail
 go_ret
 exact ⟨Zk (O.out _ _ _ _ b0 b1 b2 b3),hq.bel⟩
theorem Um (n f p:Nat) (hn:n≤4611686018427387904) (hf:f≤4611686018427387904) (hp:p≤4611686018427387904) (w:World):Calls Tryz.prog 187 #[.int .i64 n,.int .i64 f,.int .i64 p] w fun e w'=>e = .returned (.string (bsOf (slotL n f p)))∧Below w.heap.size w w':=by
 have T1:=Ac (BD0 n hn);have T2:=Ac (BD0 f hf);have T3:=Ac (BD0 p hp)
 have E:=Ac (show bsOf (slotL n f p)=bsOf (beK n 4)++bsOf (beK f 4)++bsOf (beK p 4)++(bsOf (beK n 4)++bsOf (beK f 4)++bsOf (beK p 4)) by simp only [Ri,slotL])
 rw [E.out];obtain ⟨s1,hs1⟩:∃ s,bsOf (beK n 4)=s:=⟨_,rfl⟩;obtain ⟨s2,hs2⟩:∃ s,bsOf (beK f 4)=s:=⟨_,rfl⟩;obtain ⟨s3,hs3⟩:∃ s,bsOf (beK p 4)=s:=⟨_,rfl⟩
 have z1:s1.size=4:=by rw [← hs1,Bv,Az]
 have z2:s2.size=4:=by rw [← hs2,Bv,Az]
 have z3:s3.size=4:=by rw [← hs3,Bv,Az]
 simp only [hs1,hs2,hs3] at T1 T2 T3 ⊢;clear E hs1 hs2 hs3
 go_enter Tryz.func187,Tryz.ntmps187
 go_wp2_with (first | (go_at_call 173;(with_reducible refine (T1.out _).mono ?_);rintro e w1 ⟨rfl,hb⟩;obtain ⟨hc,hf⟩:=Vf hb;have hz:=hb.size;(try simp at hz)) | (go_at_call 173;(with_reducible refine (T2.out _).mono ?_);rintro e w1 ⟨rfl,hb⟩;obtain ⟨hc,hf⟩:=Vf hb;have hz:=hb.size;(try simp at hz)) | (go_at_call 173;(with_reducible refine (T3.out _).mono ?_);rintro e w1 ⟨rfl,hb⟩;obtain ⟨hc,hf⟩:=Vf hb;have hz:=hb.size;(try simp at hz)))
 go_ret
 rename_i wa ha _ _ za wb hb2 _ _ zb
 exact ⟨rfl,Am (Am ha hb2 za) hb (Nat.le_trans za zb)⟩

end Go.Proofs.YtjihboddejaelaaGreat
namespace Go.Proofs.YtjihboddejaelaaGreat
open Go.RowKit
structure Row where
 v:Value
 e:TypeId
 size:Nat
 n:Nat
 xs:List Value
def Row.ok (w:World) (r:Row):Prop:=w.ownsRow 0 r.e r.size r.v r.n r.xs
def AQ0 (g:Nat) (rs:List Row):List (Option Nat):=some g :: rs.map (fun r=>r.v.ownBlock)
def Apart (b:List (Option Nat)):Prop:=b.Pairwise (fun x y=>∀ k,x=some k→y≠some k)
structure Ob (w:World) (g:Nat) (t:TypeId) (cs:Array Value) (rs:List Row):Prop where
 has:Has w g t cs
 rows:∀ r∈rs,r.ok w
 apart:Apart (AQ0 g rs)
structure Turn (b b':List (Option Nat)) (w w':World):Prop where
 os:w'.os=w.os
 tape:w'.tape=w.tape
 output:w'.output=w.output
 size:w.heap.size≤w'.heap.size
 block:∀ k,k<w.heap.size→some k∉b→w'.heap[k]? = w.heap[k]?
 new:∀ k,some k∈b'→some k∈b∨w.heap.size≤k
def QR0 (b c:List (Option Nat)):Prop:=∀ k,some k∈b→some k∉c
theorem QR0.symm {b c:List (Option Nat)} (h:QR0 b c):QR0 c b:=fun k hk h2=>h k h2 hk
section
variable {w w' w1 w2:World} {b b1 b2 c:List (Option Nat)} {g:Nat} {t:TypeId} {cs:Array Value} {rs:List Row}
theorem Turn.refl (b:List (Option Nat)) (w:World):Turn b b w w:=⟨rfl,rfl,rfl,Nat.le_refl _,fun _ _ _=>rfl,fun _ h=>.inl h⟩
theorem Turn.trans (h:Turn b b1 w w1) (k:Turn b1 b2 w1 w2):Turn b b2 w w2:=by
 refine ⟨k.os.trans h.os,k.tape.trans h.tape,k.output.trans h.output,Nat.le_trans h.size k.size,fun i hi hn=>?_,fun i hi=>?_⟩
 ·refine (k.block i (Nat.lt_of_lt_of_le hi h.size) (fun h2=>?_)).trans (h.block i hi hn)
  rcases h.new i h2 with h3 | h3
  ·exact hn h3
  ·omega
 ·rcases k.new i hi with h3 | h3
  ·exact h.new i h3
  ·exact .inr (Nat.le_trans h.size h3)
theorem Turn.below (b:List (Option Nat)) (hb:Below w.heap.size w w'):Turn b b w w':=⟨hb.os,hb.tape,hb.output,hb.size,fun k hk _=>hb.block k hk,fun _ h=>.inl h⟩
theorem Turn.bel {B:Nat} {a:World} (h:Turn b b1 w w1) (hb:Below B a w) (hB:∀ k,some k∈b→B≤k) (hBw:B≤w.heap.size):Below B a w1 :=
 hb.trans ⟨h.os,h.tape,h.output,h.size,fun k hk=>h.block k (Nat.lt_of_lt_of_le hk hBw) (fun h2=>by have:=hB k h2;omega)⟩
theorem Turn.low {B:Nat} (h:Turn b b1 w w1) (hB:∀ k,some k∈b→B≤k) (hBw:B≤w.heap.size):∀ k,some k∈b1→B≤k:=fun k hk=>by
 rcases h.new k hk with h2 | h2
 ·exact hB k h2
 ·omega
theorem Ob.lt (h:Ob w g t cs rs) {k:Nat} (hk:some k∈AQ0 g rs):k<w.heap.size:=by
 rcases List.mem_cons.1 hk with e | hk
 ·cases e;exact h.has.lt
 ·obtain ⟨r,hr,e⟩:=List.mem_map.1 hk
  exact ((h.rows r hr).lt k e).2
theorem Ve {e:TypeId} {size n:Nat} {v:Value} {xs:List Value} (h:w.ownsRow 0 e size v n xs) (hb:∀ k,v.ownBlock=some k→w'.heap[k]? = w.heap[k]?):w'.ownsRow 0 e size v n xs:=by
 refine ⟨h.1, ?_⟩
 rcases h.2 with h | ⟨g,cap,cur,hv,hbg,hg,r⟩
 ·exact .inl h
 ·exact .inr ⟨g,cap,cur,hv,hbg,(hb g (by rw [hv];rfl)).trans hg,r⟩
theorem Ob.kept (h:Ob w g t cs rs) (hb:∀ k,some k∈AQ0 g rs→w'.heap[k]? = w.heap[k]?):Ob w' g t cs rs :=
 ⟨(hb g (List.mem_cons_self ..)).trans h.has,fun r hr=>Ve (h.rows r hr) fun k hk=>hb k (List.mem_cons_of_mem _ (List.mem_map.2 ⟨r,hr,hk⟩)),h.apart⟩
theorem Ob.far (h:Ob w g t cs rs) (ht:Turn b b1 w w1) (hd:QR0 b (AQ0 g rs)):Ob w1 g t cs rs:=h.kept fun k hk=>ht.block k (h.lt hk) (fun h2=>hd k h2 hk)
theorem Ob.below (h:Ob w g t cs rs) (hb:Below w.heap.size w w'):Ob w' g t cs rs:=h.kept fun k hk=>hb.block k (h.lt hk)
theorem Qc (h:Apart (AQ0 g rs)) {r:Row} (hr:r∈rs):r.v.ownBlock≠some g:=by
 obtain ⟨h1,_⟩:=List.pairwise_cons.1 h;exact h1 r.v.ownBlock (List.mem_map.2 ⟨r,hr,rfl⟩) g rfl
theorem Ob.set (h:Ob w g t cs rs) (i:Nat) (u:Value):Ob (w.setCell ⟨g,i,none⟩ u) g t (cs.setIfInBounds i u) rs :=
 ⟨h.has.set i u,fun r hr=>Ve (h.rows r hr) fun k hk=>Below.heap_setCell _ _ _ _ (fun e=>Qc h.apart hr (by rw [hk];exact congrArg some e)),h.apart⟩
theorem Turn.set (g:Nat) (rs:List Row) (i:Nat) (u:Value) (w:World):Turn (AQ0 g rs) (AQ0 g rs) w (w.setCell ⟨g,i,none⟩ u) :=
 ⟨rfl,rfl,rfl,by simp [World.setCell],fun k _ hk=>Below.heap_setCell _ _ _ _ (fun e=>hk (by rw [show k=g from e];exact List.mem_cons_self ..)),fun _ h=>.inl h⟩
theorem Ob.row0 (h:Ob w g t cs rs) (i:Nat) {r r':Row} (hr:rs[i]? = some r) (hg:w.grownBy w' r.v.ownBlock) (hr':r'.ok w') (hnew:∀ k,r'.v.ownBlock=some k→r.v.ownBlock=some k∨some k∉AQ0 g rs) :
 Ob w' g t cs (rs.set i r'):=by
 have hmem:r∈rs:=List.mem_of_getElem? hr;obtain ⟨hi,hri⟩:=List.getElem?_eq_some_iff.1 hr;have hap:=h.apart
 have hin:∀ x,x∈rs→∀ k,x.v.ownBlock=some k→some k∈AQ0 g rs:=fun x hx k hk=>List.mem_cons_of_mem _ (List.mem_map.2 ⟨x,hx,hk⟩)
 have hget:∀ j x,(rs.set i r')[j]? = some x→(j=i∧x=r')∨(j≠i∧rs[j]? = some x):=fun j x hj=>by
  rw [List.getElem?_set] at hj
  split at hj
  ·rename_i e;subst e
   first
    | (cases hj;exact .inl ⟨rfl,rfl⟩)
    | (split at hj
       ·cases hj;exact .inl ⟨rfl,rfl⟩
       ·cases hj)
  ·rename_i e;exact .inr ⟨fun e2=>e e2.symm,hj⟩
 have hpair:∀ j x,rs[j]? = some x→j≠i→∀ k,x.v.ownBlock=some k→r.v.ownBlock≠some k:=fun j x hj hji k hk e=>by
  have hp:=(List.pairwise_cons.1 hap).2;rw [List.pairwise_map] at hp;obtain ⟨hj1,hj2⟩:=List.getElem?_eq_some_iff.1 hj
  rcases Nat.lt_or_ge j i with h1 | h1
  ·have:=List.pairwise_iff_getElem.1 hp j i hj1 hi h1
   rw [hj2,hri] at this;exact this k hk e
  ·have:=List.pairwise_iff_getElem.1 hp i j hi hj1 (by omega)
   rw [hj2,hri] at this;exact this k e hk
 have hgr:r.v.ownBlock≠some g:=Qc hap hmem
 refine ⟨(hg.block g h.has.lt (fun e=>hgr e.symm)).trans h.has,fun x hx=>?_, ?_⟩
 ·obtain ⟨j,hj⟩:=List.getElem?_of_mem hx
  rcases hget j x hj with ⟨_,rfl⟩ | ⟨hji,hj2⟩
  ·exact hr'
  ·have hm2:x∈rs:=List.mem_of_getElem? hj2
   exact Ve (h.rows x hm2) fun k hk=>hg.block k ((h.rows x hm2).lt k hk).2 (fun e=>hpair j x hj2 hji k hk e.symm)
 ·refine List.pairwise_cons.2 ⟨fun y hy k hk=>?_, ?_⟩
  ·cases hk
   obtain ⟨x,hx,rfl⟩:=List.mem_map.1 hy;obtain ⟨j,hj⟩:=List.getElem?_of_mem hx
   rcases hget j x hj with ⟨_,rfl⟩ | ⟨_,hj2⟩
   ·intro e
    rcases hnew _ e with h2 | h2
    ·exact hgr h2
    ·exact h2 (List.mem_cons_self ..)
   ·exact Qc hap (List.mem_of_getElem? hj2)
  ·rw [List.pairwise_map,List.pairwise_iff_getElem]
   intro j1 j2 h1 h2 hlt k hk e;have g1:=hget j1 _ (List.getElem?_eq_getElem h1);have g2:=hget j2 _ (List.getElem?_eq_getElem h2)
   generalize (rs.set i r')[j1]=x1 at *
   generalize (rs.set i r')[j2]=x2 at *
   rcases g1 with ⟨e1,rfl⟩ | ⟨n1,q1⟩
   ·rcases g2 with ⟨e2,rfl⟩ | ⟨n2,q2⟩
    ·omega
    ·rcases hnew k hk with h3 | h3
     ·exact hpair j2 x2 q2 n2 k e h3
     ·exact h3 (hin x2 (List.mem_of_getElem? q2) k e)
   ·rcases g2 with ⟨e2,rfl⟩ | ⟨n2,q2⟩
    ·rcases hnew k e with h3 | h3
     ·exact hpair j1 x1 q1 n1 k hk h3
     ·exact h3 (hin x1 (List.mem_of_getElem? q1) k hk)
    ·have hp:=(List.pairwise_cons.1 hap).2
     rw [List.pairwise_map] at hp;obtain ⟨hj1,hj2⟩:=List.getElem?_eq_some_iff.1 q1;obtain ⟨hk1,hk2⟩:=List.getElem?_eq_some_iff.1 q2;have:=List.pairwise_iff_getElem.1 hp j1 j2 hj1 hk1 hlt;rw [hj2,hk2] at this;exact this k hk e
theorem QB0 (rs:List Row) (i:Nat) (r':Row) {k:Nat} (hk:some k∈AQ0 g (rs.set i r')):some k∈AQ0 g rs∨r'.v.ownBlock=some k:=by
 rcases List.mem_cons.1 hk with e | hk
 ·exact .inl (e ▸ List.mem_cons_self ..)
 ·obtain ⟨x,hx,e⟩:=List.mem_map.1 hk
  rcases List.mem_or_eq_of_mem_set hx with h | h
  ·exact .inl (List.mem_cons_of_mem _ (List.mem_map.2 ⟨x,h,e⟩))
  ·exact .inr (h ▸ e)
theorem Ob.row (h:Ob w g t cs rs) (i:Nat) {r r':Row} (hr:rs[i]? = some r) (hg:w.grownBy w' r.v.ownBlock) (hr':r'.ok w') (hat:r'.v.ownBlock=r.v.ownBlock∨∀ k,r'.v.ownBlock=some k→w.heap.size≤k) :
 Ob w' g t cs (rs.set i r')∧Turn (AQ0 g rs) (AQ0 g (rs.set i r')) w w':=by
 have hmem:r∈rs:=List.mem_of_getElem? hr
 have hnew:∀ k,r'.v.ownBlock=some k→r.v.ownBlock=some k∨w.heap.size≤k:=fun k hk=>by
  rcases hat with e | e
  ·exact .inl (e ▸ hk)
  ·exact .inr (e k hk)
 refine ⟨h.row0 i hr hg hr' fun k hk=>(hnew k hk).imp id fun h2 h3=>by have:=h.lt h3;omega,⟨hg.os,hg.tape,hg.output,hg.size,fun k hk hn=>hg.block k hk (fun e=>hn ?_),fun k hk=>?_⟩⟩
 ·exact List.mem_cons_of_mem _ (List.mem_map.2 ⟨r,hmem,e.symm⟩)
 ·rcases QB0 rs i r' hk with h2 | h2
  ·exact .inl h2
  ·rcases hnew k h2 with h3 | h3
   ·exact .inl (List.mem_cons_of_mem _ (List.mem_map.2 ⟨r,hmem,h3⟩))
   ·exact .inr h3
theorem Ob.swap (h:Ob w g t cs rs) (i:Nat) {r r':Row} (hr:rs[i]? = some r) (hr':r'.ok w) (hn:∀ k,r'.v.ownBlock=some k→some k∉AQ0 g rs):Ob w g t cs (rs.set i r') :=
 h.row0 i hr (grownBy_refl _ _) hr' fun k hk=>.inr (hn k hk)
theorem Turn.swap {w0:World} (ht:Turn b (AQ0 g rs) w0 w) (i:Nat) {r':Row} (hlow:∀ k,r'.v.ownBlock=some k→w0.heap.size≤k):Turn b (AQ0 g (rs.set i r')) w0 w :=
 ⟨ht.os,ht.tape,ht.output,ht.size,ht.block,fun k hk=>by
   rcases QB0 rs i r' hk with h2 | h2
   ·exact ht.new k h2
   ·exact .inr (hlow k h2)⟩
theorem JN0 {w:World} {b:Nat} {e:TypeId} {size:Nat} {v:Value} {n:Nat} {xs:List Value} (h:w.ownsRow b e size v n xs):w.ownsRow 0 e size v n xs:=by
 refine ⟨h.1, ?_⟩
 rcases h.2 with h | ⟨g,cap,cur,hv,hbg,r⟩
 ·exact .inl h
 ·exact .inr ⟨g,cap,cur,hv,Nat.zero_le _,r⟩
theorem AO0 {r:Option Nat} (h:w.grownBy w' none):w.grownBy w' r:=⟨h.os,h.tape,h.output,h.size,fun k hk _=>h.block k hk (by simp)⟩
end
open Go.BigFrame
theorem NA0 (i:Nat) (hi:i≤67108864) (w:World):(Instr.makeSlice 39 (.int .i64 i) (.int .i64 i)).run Tryz.prog w = .ok (.slice (some ⟨w.heap.size,0,none⟩) i i) (w.alloc (.cells (madeCells #[.int .u8 0] i) 5)):=by
 obtain ⟨i0,hi0,hz0,hz1,hz2⟩:=info_parts infoByte
 have:=run_make (P:=Tryz.prog) w 39 5 i0 _ Tryz.underlying39 hi0 hz0 .i64 .i64 (i:Int) (i:Int) (by omega) (by omega) (by rw [hz2];omega) (by omega)
 rw [hz1,show (Value.int .u8 0).cells = #[.int .u8 0] from rfl] at this
 simpa using this
theorem Ku (s:ByteArray) (a b:Nat):s.extract a b=bsOf (Aw s.data.toList a (b-a)):=by
 rw [← IE0 (s.extract a b),Lib.extract_data]
 congr 1
theorem IZ0:∀ (l:List UInt8) (k:Nat),l.length=k→beK (unK l) k=l:=by
 intro l k
 induction k generalizing l with
 | zero=>intro h;rw [List.eq_nil_of_length_eq_zero h];rfl
 | succ k ih =>
   intro h
   obtain ⟨r,b,rfl⟩:∃ r b,l=r++[b]:=⟨l.dropLast,l.getLast (by intro e;rw [e] at h;cases h),(List.dropLast_concat_getLast _).symm⟩
   have hb:=Ci b
   rw [IL0,beK,show (256*unK r+b.toNat) / 256=unK r by omega,ih r (by simpa using h)]
   congr 2
   apply UInt8.toNat_inj.1
   rw [UInt8.toNat_ofNat'];omega
theorem Fe (l:List UInt8) (n:Nat):Aw l 0 n=l.take n:=by unfold Aw;rw [List.drop_zero]
theorem EB1 {t:List UInt8} (ht:t.length=24):t.take 12=t.take 4++Aw t 4 4++Aw t 8 4:=by
 refine List.ext_getElem? fun i=>?_
 rw [List.getElem?_take]
 rcases Nat.lt_or_ge i 4 with h | h
 ·rw [if_pos (by omega),List.append_assoc,List.getElem?_append_left (by simp;omega),List.getElem?_take,if_pos h]
 ·rcases Nat.lt_or_ge i 8 with h2 | h2
  ·rw [if_pos (by omega),List.append_assoc,List.getElem?_append_right (by simp;omega),List.getElem?_append_left (by simp [Fh];omega),Dx,if_pos (by simp;omega)]
   congr 1;simp;omega
  ·rw [List.append_assoc,List.getElem?_append_right (by simp;omega),List.getElem?_append_right (by simp [Fh];omega),Dx]
   simp only [List.length_take,Fh,ht]
   split
   ·rw [if_pos (by omega)];congr 1;omega
   ·rw [if_neg (by omega)]
theorem OQ0 {t:List UInt8} (ht:t.length=24):t.take 12=t.drop 12↔t=slotL (unK (t.take 4)) (unK (Aw t 4 4)) (unK (Aw t 8 4)):=by
 have e:slotL (unK (t.take 4)) (unK (Aw t 4 4)) (unK (Aw t 8 4))=t.take 12++t.take 12:=by
  unfold slotL
  rw [IZ0 _ 4 (by simp;omega),IZ0 _ 4 (by simp [Fh];omega),IZ0 _ 4 (by simp [Fh];omega),← EB1 ht]
 rw [e]
 constructor
 ·intro h
  conv=>lhs;rw [← List.take_append_drop 12 t,← h]
 ·intro h
  have:t.drop 12=(t.take 12++t.take 12).drop 12:=by rw [← h]
  rw [this,List.drop_append_of_le_length (by simp;omega),List.drop_of_length_le (by simp;omega),List.nil_append]
theorem CM0 {l:List UInt8} {k:Nat} (h:¬ l.length<40+24*k) {t:List UInt8} (ht:Aw l (16+24*k) 24=t) {n f p:Nat} (hn:unK (t.take 4)=n) (hf:unK (Aw t 4 4)=f) (hp:unK (Aw t 8 4)=p) :
 Ap l k=if t=slotL n f p∧1≤n∧n≤3∧(f=0∨64+1028*f≤l.length) then (n,f,p) else (0,0,0):=by
 have hl:t.length=24:=by rw [← ht,Fh];omega
 have e:=OQ0 hl;unfold Ap;rw [if_neg h];simp only [ht,hn,hf,hp];rw [hn,hf,hp] at e
 by_cases hC:t=slotL n f p∧1≤n∧n≤3∧(f=0∨64+1028*f≤l.length)
 ·rw [if_pos hC,if_neg]
  rintro (h1 | h1 | h1)
  ·exact h1 (e.2 hC.1)
  ·exact h1 ⟨hC.2.1,hC.2.2.1⟩
  ·have:=hC.2.2.2;omega
 ·rw [if_neg hC,if_pos]
  by_cases h1:t.take 12=t.drop 12
  ·refine .inr ?_
   by_cases h2:1≤n∧n≤3
   ·refine .inr ?_
    by_cases h3:f=0∨64+1028*f≤l.length
    ·exact absurd ⟨e.1 h1,h2.1,h2.2,h3⟩ hC
    ·omega
   ·exact .inl h2
  ·exact .inl h1
theorem Td {fn:Func} {t u v x:Tmp} (h:fn.results = #[.tmp t,.tmp u,.tmp v,.tmp x]) (tmps:Array Value) (P:Program) (w:World) :
 (results fn tmps).run P w = .ok (.tuple #[tmps.getD t undef,tmps.getD u undef,tmps.getD v undef,tmps.getD x undef]) w:=by
 simp [results,h]
def AE0 (l:List UInt8) (k:Nat) (n f p:Nat) (b:Bool):Prop:=b=decide ((Ap l k).1≠0)∧(b=true→Ap l k=(n,f,p))
def TC0 (w:World) (l:List UInt8) (k:Nat) (e:Ending) (w':World):Prop :=
 ∃ (n f p:Nat) (b:Bool),e = .returned (.tuple #[.int .i64 n,.int .i64 f,.int .i64 p,.bool b])∧AE0 l k n f p b∧Below w.heap.size w w'
theorem AE0.mk {l:List UInt8} {k n f p:Nat} {b:Bool} {C:Prop} [Decidable C] (h:Ap l k=if C then (n,f,p) else (0,0,0)) (hn:C→1≤n) (hb:b=true↔C):AE0 l k n f p b:=by
 unfold AE0;rw [h]
 by_cases hC:C
 ·have:=hn hC
  rw [if_pos hC,hb.2 hC]
  exact ⟨by simp;omega,fun _=>rfl⟩
 ·have hf:b=false:=by cases b with
   | true=>exact absurd (hb.1 rfl) hC
   | false=>rfl
  rw [if_neg hC,hf]
  exact ⟨by simp,fun h=>by cases h⟩
theorem GI0 {l:List UInt8} {k:Nat} (h:l.length<40+24*k):Ap l k=(0,0,0):=if_pos h
theorem TS0 (s:ByteArray) (k:Nat) (hk:k<2) (hs:s.size≤67108864) (w:World) :
 Calls Tryz.prog 183 #[.string s,.int .i64 k] w (TC0 w s.data.toList k):=by
 by_cases h1:s.size<40+24*k
 ·have E:=Ac (GI0 (l:=s.data.toList) (k:=k) (by simpa using h1))
  go_enter Tryz.func183,Tryz.ntmps183
  go_wp2_with fail
  ((try simp only [Exit.inBlock,Exit.then]);refine bodyPost_ret (Td rfl _ _ _) rfl ?_)
  exact ⟨0,0,0,false,rfl,⟨by rw [E.out];rfl,fun h=>by cases h⟩,Below.refl _ _⟩
 ·obtain ⟨T,hT⟩:∃ T,s.extract (16+24*k) (40+24*k)=T:=⟨_,rfl⟩
  have hz:T.size=24:=by rw [← hT,ByteArray.size_extract];omega
  obtain ⟨T4,hT4⟩:∃ U,T.extract 4 24=U:=⟨_,rfl⟩;obtain ⟨T8,hT8⟩:∃ U,T.extract 8 24=U:=⟨_,rfl⟩
  have hz4:T4.size=20:=by rw [← hT4,ByteArray.size_extract];omega
  have hz8:T8.size=16:=by rw [← hT8,ByteArray.size_extract];omega
  have N0:=Ac (Vd T (by omega))
  have N4:=Ac (Vd T4 (by omega))
  have N8:=Ac (Vd T8 (by omega))
  obtain ⟨n,hn⟩:∃ n,unK (T.data.toList.take 4)=n:=⟨_,rfl⟩;obtain ⟨f,hf⟩:∃ n,unK (T4.data.toList.take 4)=n:=⟨_,rfl⟩;obtain ⟨p,hp⟩:∃ n,unK (T8.data.toList.take 4)=n:=⟨_,rfl⟩
  have ln:n<4294967296:=by rw [← hn];exact EC0 4 _ (by simp;omega)
  have lf:f<4294967296:=by rw [← hf];exact EC0 4 _ (by simp;omega)
  have lp:p<4294967296:=by rw [← hp];exact EC0 4 _ (by simp;omega)
  have ST:=Ac (Um n f p (by omega) (by omega) (by omega))
  obtain ⟨S,hS⟩:∃ S,bsOf (slotL n f p)=S:=⟨_,rfl⟩;rw [hn] at N0;rw [hf] at N4;rw [hp] at N8;rw [hS] at ST
  have E:=Ac (show Ap s.data.toList k=if T.toList=S.toList∧1≤n∧n≤3∧(f=0∨64+1028*f≤s.size) then (n,f,p) else (0,0,0) by
   have hT2:T.data.toList=Aw s.data.toList (16+24*k) 24:=by rw [← hT,Ku,Ha];congr 1;omega
   have hf2:unK (Aw T.data.toList 4 4)=f:=by rw [← hf,← hT4,Ku,Ha];unfold Aw;simp [List.take_take]
   have hp2:unK (Aw T.data.toList 8 4)=p:=by rw [← hp,← hT8,Ku,Ha];unfold Aw;simp [List.take_take]
   have:=CM0 (l:=s.data.toList) (k:=k) (by simpa using h1) hT2.symm hn hf2 hp2
   rw [this,Lib.toList_data,Lib.toList_data,← hS,Ha,Array.length_toList]
   rfl)
  have HS:=Ac hS;have HN:=Ac hn;have HF:=Ac hf;have HP:=Ac hp;clear hS hn hf hp
  obtain rfl | rfl:k=0∨k=1:=by omega
  ·rw [show ((0:Nat):Int)=0 from rfl]
   go_enter Tryz.func183,Tryz.ntmps183
   go_wp2_with fail
   refine Bz (w) (by kernel_rfl) (by kernel_rfl) (Cls.start _) ?_
   repeat
    first
     | go_big_quiet_skip
     | (go_big_quiet_want;(first | go_big_quiet_op | go_simp);first | go_big_quiet_on | (apply Exists.intro;refine ⟨fun w' hw'=>?_, ?_⟩;(·(first | (with_reducible exact rfl) | (first | (go_at_call 114;(with_reducible refine (N0.out _).mono ?_);rintro e w1 ⟨rfl,hb⟩;exact ⟨rfl,Cls.step hw' hb⟩) | (go_at_call 114;(with_reducible refine (N4.out _).mono ?_);rintro e w1 ⟨rfl,hb⟩;exact ⟨rfl,Cls.step hw' hb⟩) | (go_at_call 114;(with_reducible refine (N8.out _).mono ?_);rintro e w1 ⟨rfl,hb⟩;exact ⟨rfl,Cls.step hw' hb⟩)) | (obtain ⟨hc,hf⟩:=hw'.facts;go_simp;first | done | (with_reducible exact rfl) | (with_reducible exact ⟨rfl,rfl⟩))));go_big_quiet_on))
   refine wpQuiet_nil ?_
   intro wq hq
   go_wp2_with (go_at_call 187;(with_reducible refine (ST.out _).mono ?_);rintro e w1 ⟨rfl,hb⟩;obtain ⟨hc,hf⟩:=Vf hb;have hz:=hb.size;(try simp at hz))
   all_goals
    ((try simp only [Exit.inBlock,Exit.then]);refine bodyPost_ret (Td rfl _ _ _) rfl ?_)
    first
     | refine ⟨n,f,p,_,rfl,AE0.mk E.out (fun h=>h.2.1) ?_,Am hq.bel hb hq.bel.size⟩
     | refine ⟨n,0,p,_,rfl,AE0.mk (C:=T.toList=S.toList∧1≤n∧n≤3) ?_ (fun h=>h.2.1) ?_,Am hq.bel hb hq.bel.size⟩
    all_goals first
     | (have f0:f=0:=by assumption
        rw [E.out,f0];simp;done)
     | (constructor
        ·intro h
         first
          | (cases h;done)
          | exact ⟨by assumption,by omega,by omega⟩
          | (refine ⟨by assumption,by omega,by omega, ?_⟩;simp at h;omega)
        ·rintro ⟨h1,h2⟩
         first
          | rfl
          | exact absurd h1 (by assumption)
          | (exfalso;omega)
          | (simp;omega))
  ·rw [show ((1:Nat):Int)=1 from rfl]
   go_enter Tryz.func183,Tryz.ntmps183
   go_wp2_with fail
   refine Bz (w) (by kernel_rfl) (by kernel_rfl) (Cls.start _) ?_
   repeat
    first
     | go_big_quiet_skip
     | (go_big_quiet_want;(first | go_big_quiet_op | go_simp);first | go_big_quiet_on | (apply Exists.intro;refine ⟨fun w' hw'=>?_, ?_⟩;(·(first | (with_reducible exact rfl) | (first | (go_at_call 114;(with_reducible refine (N0.out _).mono ?_);rintro e w1 ⟨rfl,hb⟩;exact ⟨rfl,Cls.step hw' hb⟩) | (go_at_call 114;(with_reducible refine (N4.out _).mono ?_);rintro e w1 ⟨rfl,hb⟩;exact ⟨rfl,Cls.step hw' hb⟩) | (go_at_call 114;(with_reducible refine (N8.out _).mono ?_);rintro e w1 ⟨rfl,hb⟩;exact ⟨rfl,Cls.step hw' hb⟩)) | (obtain ⟨hc,hf⟩:=hw'.facts;go_simp;first | done | (with_reducible exact rfl) | (with_reducible exact ⟨rfl,rfl⟩))));go_big_quiet_on))
   refine wpQuiet_nil ?_
   intro wq hq
   go_wp2_with (go_at_call 187;(with_reducible refine (ST.out _).mono ?_);rintro e w1 ⟨rfl,hb⟩;obtain ⟨hc,hf⟩:=Vf hb;have hz:=hb.size;(try simp at hz))
   all_goals
    ((try simp only [Exit.inBlock,Exit.then]);refine bodyPost_ret (Td rfl _ _ _) rfl ?_)
    first
     | refine ⟨n,f,p,_,rfl,AE0.mk E.out (fun h=>h.2.1) ?_,Am hq.bel hb hq.bel.size⟩
     | refine ⟨n,0,p,_,rfl,AE0.mk (C:=T.toList=S.toList∧1≤n∧n≤3) ?_ (fun h=>h.2.1) ?_,Am hq.bel hb hq.bel.size⟩
    all_goals first
     | (have f0:f=0:=by assumption
        rw [E.out,f0];simp;done)
     | (constructor
        ·intro h
         first
          | (cases h;done)
          | exact ⟨by assumption,by omega,by omega⟩
          | (refine ⟨by assumption,by omega,by omega, ?_⟩;simp at h;omega)
        ·rintro ⟨h1,h2⟩
         first
          | rfl
          | exact absurd h1 (by assumption)
          | (exfalso;omega)
          | (simp;omega))

def Step (S:World→Prop) (Q:Int→World→Prop) (e:Ending) (w':World):Prop:=∃ r:Int,e = .returned (.int .i64 r)∧((r=0∧S w')∨(r≠0∧Q r w'))
def FF1 (Q:Int→World→Prop) (e:Ending) (w':World):Prop:=∃ r:Int,e = .returned (.int .i64 r)∧Q r w'
theorem QO0 (fs:List (FuncId×Array Value)) (g n:Nat) (w:World) (S:Nat→World→Prop) (Q:Int→World→Prop) (hn:fs.length=n) (hn4:n≤4)
 (hcell:∀ i u,S i u→∀ j k cs,fs[j]? = some (k,cs)→u.cell? ⟨g,j,none⟩=some (.func (.func k) #[] cs))
 (hrun:∀ (i:Nat) k cs,fs[i]? = some (k,cs)→∀ u,(callFunc k cs).run Tryz.prog u = .ok (.enter k cs) u)
 (hstep:∀ (i:Nat) k cs,fs[i]? = some (k,cs)→∀ u,S i u→Calls Tryz.prog k cs u (Step (S (i+1)) Q))
 (hend:∀ u,S n u→Q 0 u) (h0:S 0 w) :
 Calls Tryz.prog 116 #[.slice (some ⟨g,0,none⟩) n n] w (FF1 Q):=by
 have HC:=Ac hcell;have HS:=Ac hstep;have HE:=Ac hend;have HR:=Ac hrun;have HN:=Ac hn;have H0:=Ac h0;clear hcell hstep hrun hend hn h0
 go_enter Tryz.func116,Tryz.ntmps116
 go_wp2_with fail
 go_loopw [8] (fun v8 wr=>∃ i:Nat,i≤n∧v8 = .int .i64 i∧S i wr) (fun v8 _=>n-(intOf v8).toNat)
 case atStart=>exact ⟨0,Nat.zero_le _,rfl,H0.out⟩
 case round =>
  obtain ⟨i,hi,rfl,hS⟩:=hrel
  by_cases hin:i<n
  ·obtain ⟨k,cs,hk⟩:∃ k cs,fs[i]? = some (k,cs):=by
    have hl:i<fs.length:=by rw [HN.out];exact hin
    exact ⟨fs[i].1,fs[i].2,List.getElem?_eq_getElem hl⟩
   have c0:=HC.out i wr hS i k cs hk;have ST:=Ac (HS.out i k cs hk wr hS);have hru:=HR.out i k cs hk wr;clear hS hk
   go_wp2_with ((with_reducible refine ST.out.mono ?_);rintro e w1 ⟨r,rfl,hr⟩;have HR:=Ac hr;clear hr)
   ·go_ret
    rename_i hrn
    have hr0:r≠0:=by simpa using hrn
    exact ⟨r,rfl,HR.out.elim (fun h=>absurd h.1 hr0) (fun h=>h.2)⟩
   ·rename_i hrn
    have hr0:r=0:=by simpa using hrn
    refine ⟨⟨i+1,by omega,by simp,HR.out.elim (fun h=>h.2) (fun h=>absurd hr0 h.1)⟩, ?_⟩
    simp [intOf];omega
  ·obtain rfl:i=n:=by omega
   have HSS:=Ac (HE.out _ hS);clear hS
   go_wp2_with fail
   go_ret
   exact ⟨0,rfl,HSS.out⟩
open Go.Maps
theorem Sj:Keyed Tryz.prog 3 := int_keyed Tryz.underlying3
theorem VY0 (w:World):(zeroValue 3).run Tryz.prog w = .ok (.int .i64 0) w:=by kernel_rfl
def MP (w:World) (b n:Nat) (f:Int→Nat):Prop:=∃ D:DataW Unit,w.ownsMap Tryz.prog 3 (plainElem Tryz.prog 3) b n D∧∀ x:Int,D.atKey (.int .i64 x) (.lit (.int .i64 0)) = .lit (.int .i64 (f x))
theorem MP.lt {w:World} {b n:Nat} {f:Int→Nat} (h:MP w b n f):b<w.heap.size:=by
 obtain ⟨D,h1,h2⟩:=h;exact h1.lt
theorem MP.block {w w':World} {b n:Nat} {f:Int→Nat} (h:MP w b n f) (hb:w'.heap[b]? = w.heap[b]?):MP w' b n f:=by
 obtain ⟨D,⟨es,cl,h1,h2⟩,h3⟩:=h;exact ⟨D,⟨es,cl,hb.trans h1,h2⟩,h3⟩
theorem MP.below {w w':World} {b n:Nat} {f:Int→Nat} (h:MP w b n f) (hb:Below w.heap.size w w'):MP w' b n f:=h.block (hb.block b h.lt)
theorem MP.made (w:World):MP (w.alloc (.map #[] 0)) w.heap.size 0 (fun _=>0):=⟨_,World.ownsMap_made _ _ _ _,fun x=>rfl⟩
theorem YF0 (n:Nat) (w:World):(Instr.makeMap 104 (some (.int .i64 n))).run Tryz.prog w = .ok (.map (some w.heap.size)) (w.alloc (.map #[] 0)):=by
 simp [Instr.makeMap,asInt,asIntOf]
def AT1 (w:World) (a p n:Nat) (f:Int→Nat) (e:Ending) (w':World):Prop :=
 ∃ b',e = .returned (.agg #[.int .i64 a,.int .i64 p,.map (some b')])∧MP w' b' n f∧w.heap.size≤b'∧Below w.heap.size w w'
theorem Zb (b a p n:Nat) (f:Int→Nat) (w:World) (hn:n≤1000000) (h:MP w b n f) :
 Calls Tryz.prog 115 #[.agg #[.int .i64 a,.int .i64 p,.map (some b)]] w (AT1 w a p n f):=by
 obtain ⟨D0,hown,hD⟩:=h;have hmm:=YF0;have hbl:=hown.lt;have hsz:=hown.size_le;have HD:=Ac hD;have HA:=Ac (Has.new w 179 #[.int .i64 a,.int .i64 p,.map (some b)]);clear hD
 go_enter Tryz.func115,Tryz.ntmps115
 go_wp2_with (first
  | (at_len;refine wpList_len_own _ rfl _ 104 rfl 3 3 Tryz.underlying104 _ b n D0 rfl ((hown.alloc _).alloc _) ?_)
  | (at_range;refine wpList_range_own _ rfl _ 104 rfl 3 3 Sj Tryz.underlying104 _ b n _ rfl (((hown.alloc _).alloc _).alloc _) ?_;intro w0 hrg0 hg0 hs0)
  | go_in)
 go_frame
 have e1:(((w.alloc (.cells #[.int .i64 a,.int .i64 p,.map (some b)] 179)).alloc (.cells #[.int .i64 0,.int .i64 0,.map none] 179)).alloc (.map #[] 0)).heap.size=w.heap.size+1+1+1:=by simp
 have HB:=Ac (Has.new (w.alloc (.cells #[.int .i64 a,.int .i64 p,.map (some b)] 179)) 179 #[.int .i64 0,.int .i64 0,.map none]);rw [World.size_alloc] at HB;rw [e1] at hrg0 hs0 ⊢;have HM0:=Ac (World.ownsMap_made (H:=Unit) ((w.alloc (.cells #[.int .i64 a,.int .i64 p,.map (some b)] 179)).alloc (.cells #[.int .i64 0,.int .i64 0,.map none] 179)) Tryz.prog 3 (plainElem Tryz.prog 3));rw [World.size_alloc,World.size_alloc] at HM0
 go_loopw [4] (fun _ wr=>∃ (left:Lit→Bool) (cnt:Nat) (Dout:DataW Unit),wr.ranges Tryz.prog 3 (plainElem Tryz.prog 3) b (w.heap.size+1+1+1) n D0 left cnt∧cnt≤Maps.size D0 ∧
  wr.ownsMap Tryz.prog 3 (plainElem Tryz.prog 3) (w.heap.size+1+1) (Maps.size D0-cnt) Dout∧Agree Dout D0 left∧Below w.heap.size w wr ∧
  Has wr w.heap.size 179 #[.int .i64 a,.int .i64 p,.map (some b)]∧Has wr (w.heap.size+1) 179 #[.int .i64 0,.int .i64 0,.map none])
  (fun _ wr=>wr.rangeLeft b (w.heap.size+1+1+1))
 case atStart =>
  exact ⟨_,_,.map [],hrg0,Nat.le_refl _,(HM0.out.kept hg0 (by simp)).mono (Nat.zero_le _),agree_start D0,((((Below.refl _ _).alloc (Nat.le_refl _) _).alloc (by simp) _).alloc (by simp;omega) _).grown hg0 (by simp;omega) (fun j hj=>by cases hj),
   ((HA.out.alloc _).alloc _).grown hg0 (by simp),(HB.out.alloc _).grown hg0 (by simp)⟩
 case round =>
  obtain ⟨left,cnt,Dout,hrg,hcs,hout,hA,hnx,hp,hr⟩:=hrel;have HP:=Ac hp;have HR:=Ac hr
  obtain ⟨c0,c1,c2,d0,d1,d2⟩:=(show wr.cell? ⟨w.heap.size,0,none⟩=some (.int .i64 a)∧wr.cell? ⟨w.heap.size,1,none⟩=some (.int .i64 p)∧wr.cell? ⟨w.heap.size,2,none⟩=some (.map (some b))∧wr.cell? ⟨w.heap.size+1,0,none⟩=some (.int .i64 0)∧wr.cell? ⟨w.heap.size+1,1,none⟩=some (.int .i64 0)∧wr.cell? ⟨w.heap.size+1,2,none⟩=some (.map none) from ⟨hp.cell 0,hp.cell 1,hp.cell 2,hr.cell 0,hr.cell 1,hr.cell 2⟩)
  have cf:=hp.frozen;have cf2:=hr.frozen;clear hp hr HA HB HM0 hrg0 hg0 hs0 e1
  go_wp2_with (first
   | (at_next;refine wpList_next_ranges_ii _ rfl _ rfl 3 3 .i64 .i64 Sj Tryz.underlying3 Tryz.underlying3 b (w.heap.size+1+1+1) n _ _ _ rfl hrg ?_ ?_)
   | go_in)
  ·intro hc0 hl0
   go_wp2
   subst hc0;have e:=agree_end hA hl0 (hout.canon Sj) (hown.canon Sj);subst e
   have h2:=(HR.out.far (p:=⟨w.heap.size,2,none⟩) (by simp) (.map (some (w.heap.size+1+1)))).FR1 (x:=.int .i64 a) (y:=.int .i64 p) (z:=.map (some (w.heap.size+1+1)))
   have h3:=(((hout.setCell (a:=⟨w.heap.size,2,none⟩) (by simp;omega) (.map (some (w.heap.size+1+1)))).setCell (a:=⟨w.heap.size+1,0,none⟩) (by simp) (.int .i64 a)).setCell (a:=⟨w.heap.size+1,1,none⟩) (by simp) (.int .i64 p)).setCell (a:=⟨w.heap.size+1,2,none⟩) (by simp) (.map (some (w.heap.size+1+1)))
   have h4:=(((hnx.setCell (p:=⟨w.heap.size,2,none⟩) (Nat.le_refl _) (.map (some (w.heap.size+1+1)))).setCell (p:=⟨w.heap.size+1,0,none⟩) (by simp) (.int .i64 a)).setCell (p:=⟨w.heap.size+1,1,none⟩) (by simp) (.int .i64 p)).setCell (p:=⟨w.heap.size+1,2,none⟩) (by simp) (.map (some (w.heap.size+1+1)))
   refine bodyPost_ret (results_cell_row rfl _ _ (w.heap.size+1) 179 _ (0,0) _ rfl h2 Tryz.underlying179 rfl (by kernel_rfl)) rfl ?_
   exact ⟨_,rfl,⟨_,h3.mono (by omega),HD.out⟩,by omega,h4⟩
  ·intro x c w1 cnt1 hwx hwc hlx hat hrg1 hlt hg1 hs1 hen
   have hout1:=hout.kept hg1 (by simp)
   go_wp2_with (first
    | (at_mapUpdate;refine wpList_mapUpdate_own _ rfl _ _ _ 104 rfl 3 3 Sj Tryz.underlying104 _ (w.heap.size+1+1) _ _ rfl hout1 (by unfold maxLen;omega) _ _ _ rfl rfl (keyOf_int_mk Tryz.underlying3 hwx) _ [] (plainElem_int Tryz.underlying3 hwc) ?_;intro w2 hout2 hg2;go_frame)
    | go_in)
   have hrg2:=hrg1.kept hg2 (fun e=>by have:=Option.some.inj e;omega) (fun e=>by have:=Option.some.inj e;omega)
   go_roundw
   case rel =>
    exact ⟨_,cnt1,_,hrg2,by omega,hout2.mono (by omega),agree_step hA hout.isMap trivial hat,
     (hnx.grown hg1 hnx.size (fun j hj=>by cases hj;omega)).grown hg2 (by have:=hnx.size;omega) (fun j hj=>by cases hj;omega),
     (HP.out.grown hg1 (by simp <;> omega)).grown hg2 (by simp <;> omega),(HR.out.grown hg1 (by simp <;> omega)).grown hg2 (by simp <;> omega)⟩
   case measure=>rw [hrg2.left_eq,hrg.left_eq];exact hlt
end Go.Proofs.YtjihboddejaelaaGreat
