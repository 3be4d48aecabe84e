/-
  The law DiskRuns (1): both disks side by side; num, sameInts, files.
-/
import Derived.Test.YtjihboddejaelaaGreatTs11
import Derived.Deep.RegionHeld3
import Derived.Deep.RegionLaw
import Derived.Test.YtjihboddejaelaaGreatTs5
import Derived.Test.YtjihboddejaelaaGreatTs6
import Derived.Test.YtjihboddejaelaaGreatTs9
import Derived.Test.YtjihboddejaelaaGreatTs4
import Derived.Test.YtjihboddejaelaaGreatTs1
import Derived.Test.YtjihboddejaelaaGreatTs7
import Derived.Test.YtjihboddejaelaaGreatTs8
set_option linter.unusedVariables false
set_option linter.unusedSimpArgs false
set_option maxRecDepth 100000
set_option maxHeartbeats 100000000
namespace Go.Proofs.YtjihboddejaelaaGreat
open Go.RowKit Go.BigFrame
section
variable {w0 w w':World} {g r:Nat} {b b' c c':List (Option Nat)} {D D' E E':Dk}
end
theorem DH1:(Tryz.prog.info? 3).map (fun i=>(i.zero,i.size,i.bytes))=some (some (.int .i64 0),1,8):=by kernel_rfl
theorem AP0:(Value.int .i64 0).cells.size=1:=by kernel_rfl
theorem BM0 (D:Dk):D.turn.waits.length=D.waits.length∧D.turn.count≤D.count+1:=by
 unfold Dk.turn;split
 ·exact ⟨rfl,Nat.le_succ _⟩
 ·exact ⟨rfl,Nat.le_refl _⟩
theorem BW0 (D:Dk) (c:Ch):(D.change c).waits.length≤D.waits.length+1∧(D.change c).count≤D.count+1:=by
 unfold Dk.change
 split
 ·have:=BM0 D;omega
 ·refine ⟨?_,(BM0 D).2⟩
  show (D.waits++[c]).length≤_
  rw [List.length_append];simp
theorem LV0 (D:Dk) (f a:Int) (s:ByteArray):(D.write f a s).waits.length≤D.waits.length+1∧(D.write f a s).count≤D.count+1:=by
 unfold Dk.write;split
 ·exact BW0 _ _
 ·omega
theorem UD0 (D:Dk) (f a:Int):(D.Uu f a).waits.length≤D.waits.length+1∧(D.Uu f a).count≤D.count+1:=by
 unfold Dk.Uu;split
 ·exact BW0 _ _
 ·omega
theorem RD0 (D:Dk) (f:Int):(D.sync f).waits.length≤D.waits.length∧(D.sync f).count≤D.count+1:=by
 unfold Dk.sync;split
 ·split
  ·have:=BM0 D;omega
  ·exact ⟨List.length_filter_le _ _,(BM0 D).2⟩
 ·omega


attribute [local go_sem] Fv Cj Bq Act.put


end Go.Proofs.YtjihboddejaelaaGreat
namespace Go.Proofs.YtjihboddejaelaaGreat
open Go.RowKit Go.BigFrame

section
variable {P:Pl} {B N:Bk} {mf:Nat}
end

end Go.Proofs.YtjihboddejaelaaGreat
namespace Go.Proofs.YtjihboddejaelaaGreat
open Go.RowKit
theorem JW0 {L:Lg} (h:L.D.calm) (hlen:L.fs.length≤60000) {n p:Nat} (hn:n≤65536) (hp:1≤p∧p≤65536) {t:ByteArray} (ht:t.size=1024) (hs:L.slot<2):L.Gp n t p=0∧(L.Eu n t p).D.calm:=by
 obtain ⟨e1,e2⟩:=Zj hlen hn ht;have hA:L.Dq n t=0:=e1.trans h.Ec
 have hc:(L.append n t).D.calm:=by rw [e2];exact h.change _
 have hsl:(L.append n t).slot<2:=by rw [e2];exact hs
 have cE:L.Gp n t p=if L.Dq n t=0 then (if (L.append n t).D.stops then 2 else ({ L.append n t with D:=(L.append n t).D.sync 1 }:Lg).Gl (L.append n t).fs.length p) else L.Dq n t:=(if_pos (by omega)).trans (by rw [Int.toNat_natCast])
 have cT:L.Eu n t p=if L.Dq n t=0 then (if (L.append n t).D.stops then { L.append n t with D:=(L.append n t).D.sync 1 } else ({ L.append n t with D:=(L.append n t).D.sync 1 }:Lg).tell (L.append n t).fs.length p) else L.append n t:=(if_pos (by omega)).trans (by rw [Int.toNat_natCast])
 rw [cE,cT,if_pos hA,if_pos hA,if_neg hc.go,if_neg hc.go];have hy:=hc.sync 1
 generalize L.append n t=A at *
 have ht2:(({ A with D:=A.D.sync 1 }:Lg).Bi A.fs.length p).calm:=hy.write _ _ _
 refine ⟨(if_neg (show ¬ ({ A with D:=A.D.sync 1 }:Lg).D.stops from hy.go)).trans ht2.Ec, ?_⟩
 have e:({ A with D:=A.D.sync 1 }:Lg).tell A.fs.length p={ ({ A with D:=A.D.sync 1 }:Lg) with D:=(({ A with D:=A.D.sync 1 }:Lg).Bi A.fs.length p).sync 1,slot:=1-A.slot,number:=A.number % 3+1,kept:=A.fs.length,pages:=p }:=(if_neg (show ¬ ({ A with D:=A.D.sync 1 }:Lg).D.stops from hy.go)).trans (if_neg ht2.go)
 rw [e];exact ht2.sync 1
def Sl:Bk:=⟨1,fun _=>Vg⟩
structure HK0 (D D':Dk) (c:Nat):Prop where
 ok:D.ok→D'.ok
 waits:D'.waits.length≤D.waits.length+c
 count:D'.count≤D.count+c
section
variable {D D1 D2:Dk} {c d:Nat}
theorem HK0.refl (D:Dk) (c:Nat):HK0 D D c:=⟨id,Nat.le_add_right ..,Nat.le_add_right ..⟩
theorem HK0.mono (h:HK0 D D1 c) (hc:c≤d):HK0 D D1 d:=⟨h.ok,by have:=h.waits;omega,by have:=h.count;omega⟩
theorem HK0.trans (h:HK0 D D1 c) (k:HK0 D1 D2 d):HK0 D D2 (c+d):=⟨fun x=>k.ok (h.ok x),by have:=h.waits;have:=k.waits;omega,by have:=h.count;have:=k.count;omega⟩
theorem Yy (D:Dk) (f a:Int) (s:ByteArray):HK0 D (D.write f a s) 1:=⟨fun h=>Dk.BE0 h f a s,(LV0 D f a s).1,(LV0 D f a s).2⟩
theorem AP1 (D:Dk) (f a:Int):HK0 D (D.Uu f a) 1:=⟨fun h=>Dk.BZ1 h f a,(UD0 D f a).1,(UD0 D f a).2⟩
theorem Xi (D:Dk) (f:Int):HK0 D (D.sync f) 1:=⟨fun h=>Dk.Vx h f,by have:=(RD0 D f).1;omega,(RD0 D f).2⟩
end
theorem Wj (L:Lg) (n:Int) (t:ByteArray):HK0 L.D (L.append n t).D 1:=by
 unfold Lg.append
 split
 ·exact Yy _ _ _ _
 ·exact .refl _ _
theorem WN0 (L:Lg) (f p:Nat):HK0 L.D (L.tell f p).D 2:=by
 have h1:HK0 L.D (L.Bi f p) 1:=Yy _ _ _ _;unfold Lg.tell
 split
 ·exact h1.mono (by omega)
 ·have h2:HK0 L.D ((L.Bi f p).sync 1) 2:=h1.trans (Xi _ _)
  split
  ·exact h2
  ·exact h2
theorem MN0 (L:Lg) (n:Int) (t:ByteArray) (p:Int):HK0 L.D (L.Eu n t p).D 4:=by
 have h1:=Wj L n t;have h2:HK0 L.D ((L.append n t).D.sync 1) 2:=h1.trans (Xi _ _);unfold Lg.Eu
 split
 ·split
  ·split
   ·exact h2.mono (by omega)
   ·exact h2.trans (WN0 ({ L.append n t with D:=(L.append n t).D.sync 1 }:Lg) _ _)
  ·exact h1.mono (by omega)
 ·exact .refl _ _
structure Go (P P':Pl) (c:Nat):Prop where
 near:HK0 P.L.D P'.L.D c
 most:P'.most=P.most
 pins:∀ k,(∀ f∈P.ring,f.pins≤k)→∀ f∈P'.ring,f.pins≤k
section
variable {P P1 P2:Pl} {c d:Nat}
theorem Go.refl (P:Pl) (c:Nat):Go P P c:=⟨.refl _ _,rfl,fun _ h=>h⟩
theorem Go.mono (h:Go P P1 c) (hc:c≤d):Go P P1 d:=⟨h.near.mono hc,h.most,h.pins⟩
theorem Go.trans (h:Go P P1 c) (k:Go P1 P2 d):Go P P2 (c+d):=⟨h.near.trans k.near,k.most.trans h.most,fun m hm=>k.pins m (h.pins m hm)⟩
theorem Yx {F:List Pf} {n k:Nat} (h:∀ f∈F,f.pins≤k):∀ f∈Oi n F,f.pins≤k:=fun f hf=>h f ((Kz _ _).subset hf)
theorem ZE0 (P:Pl) (f:Pf):Go P (P.Ht f).1 1:=by
 unfold Pl.Ht
 split
 ·split
  ·exact ⟨Wj _ _ _,rfl,fun k h=>Yx h⟩
  ·exact ⟨Wj _ _ _,rfl,fun k h=>h⟩
 ·exact ⟨.refl _ _,rfl,fun k h=>Yx h⟩
theorem NG0 (P:Pl):Go P P.room.1 1:=by
 unfold Pl.room
 split
 ·exact .refl _ _
 ·split
  ·exact .refl _ _
  ·exact ZE0 _ _
theorem ZQ0 (P:Pl) (x:Nat):Go P (P.fetch x).1 0:=by
 unfold Pl.fetch
 split
 ·refine ⟨.refl _ _,rfl,fun k h f hf=>?_⟩
  rcases List.mem_append.1 hf with hf | hf
  ·exact h f hf
  ·rw [List.mem_singleton.1 hf];exact Nat.zero_le _
 ·exact .refl _ _
theorem EI0 (P:Pl) (x:Int):Go P (P.get x).1 1:=by
 unfold Pl.get
 split
 ·split
  ·rename_i f hf
   refine ⟨.refl _ _,rfl,fun k h g hg=>?_⟩
   rcases List.mem_append.1 hg with hg | hg
   ·exact Yx h g hg
   ·rw [List.mem_singleton.1 hg];exact h f (List.mem_of_find?_eq_some hf)
  ·split
   ·exact (NG0 P).trans (ZQ0 _ _)
   ·exact NG0 P
 ·exact .refl _ _
theorem SW0 (P:Pl) {f:Pf} (hf:f.pins=P.Pv.pins):Go P (P.setLast f) 0:=by
 refine ⟨.refl _ _,rfl,fun k h g hg=>?_⟩
 have hg2:g∈P.ring.dropLast++[f]:=hg
 rcases List.mem_append.1 hg2 with h1 | h1
 ·exact h g (List.dropLast_subset _ h1)
 ·rw [List.mem_singleton.1 h1,hf]
  unfold Pl.Pv
  cases hr:P.ring.getLast? with
  | none =>
    have:P.ring=[]:=List.getLast?_eq_none_iff.1 hr;rw [this];exact Nat.zero_le _
  | some l =>
    rw [List.getLastD_eq_getLast?,hr];exact h l (List.mem_of_getLast? hr)
theorem XL0 (P:Pl) (x:Int) (s:ByteArray):Go P (P.put x s).1 1:=by
 unfold Pl.put
 split
 ·have h:=(EI0 P x).trans (SW0 (P.get x).1 (f:={ (P.get x).1.Pv with s:=s,dirty:=true }) rfl)
  exact ⟨h.near,h.most,h.pins⟩
 ·exact EI0 P x
theorem SA0 (P:Pl) (n:Nat):Go P (P.Cf n).1 2:=by
 unfold Pl.Cf
 split
 ·split
  ·exact (EI0 P 0).mono (by omega)
  ·split
   ·have h:=(EI0 P 0).trans (XL0 (P.get 0).1 0 (Dc 4 n (‹Pg›).2.2))
    exact ⟨h.near,h.most,h.pins⟩
   ·exact (EI0 P 0).trans (XL0 _ _ _)
 ·exact (EI0 P 0).mono (by omega)
theorem DF1 (P:Pl):Go P P.grow.1 1:=by
 have h:=NG0 P;unfold Pl.grow
 split
 ·refine ⟨h.near,h.most,fun k hk f hf=>?_⟩
  rcases List.mem_append.1 hf with hf | hf
  ·exact h.pins k hk f hf
  ·rw [List.mem_singleton.1 hf];exact Nat.zero_le _
 ·exact h
end
end Go.Proofs.YtjihboddejaelaaGreat
