/-
  The law DiskRuns (1): both disks side by side; num, sameInts, files.
-/
import Derived.Test.YtjihboddejaelaaGreatTm3
import Derived.Deep.RegionHeld3
import Derived.Test.YtjihboddejaelaaGreatTm1
import Derived.IntWalk
import Derived.Maps.RangeWalk
import Derived.Maps.OwnSet
import Derived.Maps.OwnOps
import Derived.Maps.Ext
import Derived.Test.YtjihboddejaelaaGreatTm2
import Derived.ProofKit
import Derived.OpenShut
import Derived.ShutString
import Derived.ChangeOld
import Derived.SizedLaws
import Derived.Deep.Slices
import Derived.Lib.SmallJoins
set_option linter.unusedVariables false
set_option linter.unusedSimpArgs false
set_option linter.defProp false
set_option maxRecDepth 100000
set_option maxHeartbeats 100000000
namespace Go.Proofs.YtjihboddejaelaaGreat
open Go.RowKit Go.BigFrame
section
variable {w0 w w':World} {g r:Nat} {b b' c c':List (Option Nat)} {D D' E E':Dk}
end
def Gh(x:Int)(w:World):Calls Tryz.prog 20 #[.int .i64 x] w λe w'=>e = .returned (.int .i64 x)/\w=w':=by
 go_enter Tryz.func20,Tryz.ntmps20
 go_wp2
 go_ret;exact⟨rfl,rfl⟩
structure Us where
 kind:Int
 f:Int
 at_:Int
 n:Int
 s:ByteArray
 t:ByteArray
 kA:Option Addr
 kn:Nat
 kc:Nat
 ks:List Int
 cA:Option Addr
 cn:Nat
 cc:Nat
def Us.arr(a:Us):Array Value:=#[.int .i64 a.kind,.int .i64 a.f,.int .i64 a.at_,.int .i64 a.n,.string a.s,.string a.t,.slice a.kA a.kn a.kc,.slice a.cA a.cn a.cc]
structure Us.Ok (a:Us) (w:World):Prop where
 keep:IS w a.kA a.kn a.ks
 lt:0<a.kn->∀ k,iK a.kA=some k->k<w.heap.size
 len:a.kn*8<=140737488355328
 s:a.s.size<=9223372036854775807
 n:a.n<=9223372036854775807
def aO(D:Dk):D.turn.waits.length=D.waits.length/\D.turn.count<=D.count+1:=by
 unfold Dk.turn;split
 ·exact⟨rfl,EZ _⟩
 ·exact⟨rfl,AY _⟩
def zG(D:Dk)(c:Ch):(D.change c).waits.length<=D.waits.length+1/\(D.change c).count<=D.count+1:=by
 unfold Dk.change
 split
 ·have:=aO D;omega
 ·refine ⟨?_,(aO D).2⟩;show(D.waits++[c]).length<=_;rw[A8];simp
def uS(D:Dk)(f a:Int)(s:ByteArray):(D.write f a s).waits.length<=D.waits.length+1/\(D.write f a s).count<=D.count+1:=by
 unfold Dk.write;split
 ·exact zG _ _
 ·omega
def EE1(D:Dk)(f a:Int):(D.Fp f a).waits.length<=D.waits.length+1/\(D.Fp f a).count<=D.count+1:=by
 unfold Dk.Fp;split
 ·exact zG _ _
 ·omega
def rH(D:Dk)(f:Int):(D.sync f).waits.length<=D.waits.length/\(D.sync f).count<=D.count+1:=by
 unfold Dk.sync;split
 ·split
  ·have:=aO D;omega
  ·exact⟨dB _ _,(aO D).2⟩
 ·omega
end Go.Proofs.YtjihboddejaelaaGreat
namespace Go.Proofs.YtjihboddejaelaaGreat
open Go.RowKit
def Bc(l:List UInt8)(a n:Nat):List UInt8:=(l.drop a).take n
def Ee(l:List UInt8)(a n i:Nat):(Bc l a n)[i]? = if i<n then l[a+i]? else none:=by
 unfold Bc;rw[GZ]
 split
 ·rw[IX]
 ·rfl
def Gy(l:List UInt8)(a n:Nat):(Bc l a n).length=min n (l.length-a):=by
 unfold Bc;rw[CU,DJ]
def Zn(l:List UInt8)(n i:Nat)(h:i<l.length):(Ef l n)[i]? = l[i]? := by
 unfold Ef;rw[G9 h]
def Xw(l:List UInt8)(a:Nat)(t:List UInt8)(i:Nat):(GR l a t)[i]? = if a<=i/\i<a+t.length then t[i-a]? else(Ef l (a+t.length))[i]? := by
 have d:=Rk l (a+t.length);unfold GR
 have b:((Ef l (a+t.length)).take a).length=a:=by rw[CU,d];omega
 by_cases c:i<a
 ·rw[AO (by omega),BU,G9 (by rw[b];exact c),GZ,AC c]
 ·by_cases e:i<a+t.length
  ·rw[AC ⟨by omega,e⟩,BU,GU (by rw[b];omega),b,G9 (by omega)]
  ·rw [AO (by omega),GU (by rw [A8,b];omega),A8,b,IX]
   congr 1;omega
def Iz{l:List UInt8}{a:Nat}{t:List UInt8}{b n:Nat}(c:b+n<=l.length)(h:b+n<=a\/a+t.length<=b):Bc (GR l a t) b n=Bc l b n:=by
 refine JC λi=>?_;rw[Ee,Ee]
 split
 ·rw[Xw,AO (by omega),Zn _ _ _ (by omega)]
 ·rfl
def Oe(l:List UInt8)(a:Nat)(t:List UInt8):Bc (GR l a t) a t.length=t:=by
 refine JC λi=>?_;rw[Ee]
 split
 ·rw[Xw,AC ⟨by omega,by omega⟩];congr 1;omega
 ·rw[MH (by omega)]
def He{l:List UInt8}{a n:Nat}{t:List UInt8}(h:Bc l a n=t)(b:t.length=n)(c:0<n):a+n<=l.length:=by
 have:=Gy l a n;rw[h]at this;omega
def lC(l:List UInt8)(a n b m:Nat)(h:b+m<=n):Bc (Bc l a n) b m=Bc l (a+b) m:=by
 refine JC λi=>?_;rw[Ee (Bc l a n),Ee l (a+b)]
 split
 ·rw[Ee,AC (by omega)];congr 1;omega
 ·rfl
structure Fr where
 n:Nat
 text:ByteArray
def Fr.bytes(f:Fr):List UInt8:=BJ f.n 4++f.text.data.toList
def Fr.Hz(f:Fr)(h:f.text.size=1024):f.bytes.length=1028:=by
 unfold Fr.bytes;rw[A8,Bj,JX,show f.text.data.size=f.text.size from rfl,h]
def Aw:List Fr->Int->Nat
 | [],_=>0
 | f :: fs,x=>if Aw fs x≠0 then Aw fs x+1 else if(f.n:Int)=x then 1 else 0
def Wv:∀ (fs:List Fr) (x:Int),Aw fs x<=fs.length
 | [],_=>AY _
 | f :: fs,x=>by
   have:=Wv fs x;rw[Aw,DF]
   split
   ·omega
   ·split <;> omega
def Ri:∀ (fs:List Fr) (f:Fr) (x:Int),Aw (fs++[f]) x=if (f.n:Int)=x then fs.length+1 else Aw fs x
 | [],f,x=>by simp[Aw]
 | g :: fs,f,x=>by
   rw[F7,Aw,Ri fs f x];by_cases h:(f.n:Int)=x
   ·simp[h]
   ·rw[AO h,AO h,Aw]
def kN:∀ (fs:List Fr) (x:Int),Aw fs x≠0->∃ f,fs[Aw fs x-1]? = some f/\(f.n:Int)=x
 | [],x,h=>absurd rfl h
 | g :: fs,x,h=>by
   rw[Aw]at h ⊢;by_cases b:Aw fs x≠0
   ·rw [AC b];obtain⟨f,a,c⟩:=kN fs x b;refine⟨f, ?_,c⟩;rw[show Aw fs x+1-1=(Aw fs x-1)+1 by omega,nI];exact a
   ·rw [AO b] at h ⊢;by_cases a:(g.n:Int)=x
    ·rw[AC a];exact⟨g,rfl,a⟩
    ·rw[AO a]at h;exact absurd rfl h
def slotL(n f p:Nat):List UInt8:=(BJ n 4++BJ f 4++BJ p 4)++(BJ n 4++BJ f 4++BJ p 4)
def Eo(n f p:Nat):(slotL n f p).length=24:=by simp[slotL,Bj]
def Jb:List UInt8:=[114,101,108,115,116,111,114,101,32,108,111,103,32,48,48,49]
def Az(l:List UInt8)(k:Nat):Nat×Nat×Nat :=
 if l.length<40+24*k then(0,0,0)else
 let t:=Bc l (16+24*k) 24
 let n:=DC (t.take 4)
 let f:=DC (Bc t 4 4)
 let p:=DC (Bc t 8 4)
 if t.take 12≠t.drop 12\/¬(1<=n/\n<=3)\/0<f/\l.length<64+1028*f then(0,0,0)else(n,f,p)
def Cj(l:List UInt8):Nat :=
 if l.take 16≠Jb\/(Az l 0).1=0/\(Az l 1).1=0 then 2
 else if(Az l 0).1=0\/(Az l 1).1≠0/\(Az l 1).1=(Az l 0).1 % 3+1 then 1 else 0
structure Lg where
 D:Dk
 fs:List Fr
 kept:Nat
 pages:Nat
 slot:Nat
 number:Nat
structure Lg.ok (L:Lg):Prop where
 disk:L.D.ok
 frames:∀ f∈L.fs,f.n<4294967296/\f.text.size=1024
 lies:∀ i f,L.fs[i]? = some f->Bc (L.D.seen 1) (64+1028*i) 1028=f.bytes
 top:64+1028*L.fs.length<=67108864\/L.fs=[]
 kept:L.kept<=L.fs.length
 pages:L.pages<4294967296
 slot:L.slot<2
 number:L.number<4
def Lg.ok.len{L:Lg}(h:L.ok):L.fs.length<=65281:=by
 rcases h.top with h | h
 ·omega
 ·rw[h];show 0<=65281;omega
def Lg.Fa(L:Lg)(n:Int):ByteArray :=
 if 0<=n/\n<=2147483647/\L.D.down=false then
  if Aw L.fs n≠0 then((L.fs[Aw L.fs n-1]?).map (·.text)).getD ⟨#[]⟩
  else if n<((L.D.seen 0).length / 1024:Nat)then bsOf (Bc (L.D.seen 0) (1024*n.toNat) 1024)else⟨#[]⟩
 else⟨#[]⟩
def Lg.Dy(L:Lg)(n:Int):Int :=
 if 0<=n/\n<=2147483647 then
  if L.D.down=true then 2 else if Aw L.fs n≠0 then 0 else if n<((L.D.seen 0).length / 1024:Nat)then 0 else 7
 else 1
def Lg.RX(L:Lg)(n:Int)(t:ByteArray):Prop:=0<=n/\n<=2147483647/\t.size=1024
instance (L:Lg) (n:Int) (t:ByteArray):Decidable (L.RX n t):=by unfold Lg.RX;infer_instance
def Lg.at_(L:Lg):Nat:=64+1028*L.fs.length
def Lg.append(L:Lg)(n:Int)(t:ByteArray):Lg :=
 if L.RX n t/\L.at_+1028<=67108864 then
  { L with D:=L.D.write 1 L.at_ (bsOf (Fr.bytes ⟨n.toNat,t⟩)),fs:=if L.D.stops then L.fs else L.fs++[⟨n.toNat,t⟩] }
 else L
def Lg.Dp(L:Lg)(n:Int)(t:ByteArray):Int:=if L.RX n t then(if L.at_+1028<=67108864 then L.D.Dw else 8)else 1
def Lg.Cf(L:Lg)(f p:Nat):Dk:=L.D.write 1 (16+24*(1-L.slot):Nat) (bsOf (slotL (L.number % 3+1) f p))
def Lg.tell(L:Lg)(f p:Nat):Lg :=
 if L.D.stops then{ L with D:=L.Cf f p }
 else if(L.Cf f p).stops then{ L with D:=(L.Cf f p).sync 1 }
 else{ L with D:=(L.Cf f p).sync 1,slot:=1-L.slot,number:=L.number % 3+1,kept:=f,pages:=p }
def Lg.Eb(L:Lg)(f p:Nat):Int:=if L.D.stops then 2 else(L.Cf f p).Dw
def Lg.Bi(L:Lg)(n:Int)(t:ByteArray)(p:Int):Lg :=
 if 1<=p/\p<=65536 then
  if L.Dp n t=0 then
   if(L.append n t).D.stops then{ L.append n t with D:=(L.append n t).D.sync 1 }
   else({ L.append n t with D:=(L.append n t).D.sync 1 }:Lg).tell (L.append n t).fs.length p.toNat
  else L.append n t
 else L
def Lg.Ez(L:Lg)(n:Int)(t:ByteArray)(p:Int):Int :=
 if 1<=p/\p<=65536 then
  if L.Dp n t=0 then
   if(L.append n t).D.stops then 2
   else({ L.append n t with D:=(L.append n t).D.sync 1 }:Lg).Eb (L.append n t).fs.length p.toNat
  else L.Dp n t
 else 1
def Lg.back(L:Lg):Lg:={ L with fs:=L.fs.take L.kept }
def Lg.Vg(L:Lg)(D:Dk)(m:Nat):Dk:=if Aw L.fs m≠0 then D.write 0 (1024*m:Nat) (((L.fs[Aw L.fs m-1]?).map (·.text)).getD ⟨#[]⟩)else D
def Lg.Qk(L:Lg)(D:Dk)(m:Nat):Int:=if Aw L.fs m≠0 then D.Ji 0 (1024*m:Nat) (((L.fs[Aw L.fs m-1]?).map (·.text)).getD ⟨#[]⟩)else 0
def Lg.puts (L:Lg):Nat->Nat->Dk->Dk×Int
 | 0,_,D=>(D,0)
 | k+1,m,D=>if L.Qk D m=0 then L.puts k (m+1) (L.Vg D m)else(L.Vg D m,L.Qk D m)
def Lg.Gs(L:Lg)(D:Dk):Lg×Int :=
 if D.IM 0 (1024*L.pages:Nat)≠0 then({ L with D:=D.Fp 0 (1024*L.pages:Nat) },D.IM 0 (1024*L.pages:Nat))
 else if(D.Fp 0 (1024*L.pages:Nat)).stops then({ L with D:=(D.Fp 0 (1024*L.pages:Nat)).sync 0 },2)
 else
  let M:Lg:={ L with D:=(D.Fp 0 (1024*L.pages:Nat)).sync 0 }
  if M.Eb 0 L.pages=0 then({ M.tell 0 L.pages with fs:=[] },0)else(M.tell 0 L.pages,M.Eb 0 L.pages)
def Lg.Ah(L:Lg):Lg×Int :=
 if L.fs.length≠L.kept then(L,11)
 else if L.kept=0 then(L,0)
 else if(L.puts L.pages 0 L.D).2≠0 then({ L with D:=(L.puts L.pages 0 L.D).1 },(L.puts L.pages 0 L.D).2)
 else L.Gs (L.puts L.pages 0 L.D).1
def Oy(l:List UInt8)(k:Nat):Fr:=⟨DC (Bc l (64+1028*k) 4),bsOf (Bc l (64+1028*k+4) 1024)⟩
def Eh(l:List UInt8)(f:Nat):List Fr:=(List.range f).map (Oy l)
def Ti(D:Dk):Dk:=(((D.Fp 1 0).sync 1).write 1 0 (bsOf (Jb++slotL 1 0 ((D.seen 0).length / 1024)))).sync 1
def Lg.opened(D:Dk):Lg :=
 if Cj (D.seen 1)=2 then⟨Ti D,[],0,(D.seen 0).length / 1024,0,1⟩
 else⟨D,Eh (D.seen 1) (Az (D.seen 1) (Cj (D.seen 1))).2.1,(Az (D.seen 1) (Cj (D.seen 1))).2.1,(Az (D.seen 1) (Cj (D.seen 1))).2.2,Cj (D.seen 1),(Az (D.seen 1) (Cj (D.seen 1))).1⟩
open Go.BigFrame
def SH(i x y:Nat)(a:x % 2 ^ i=0)(b:y<2 ^ i)(e:x+y<4611686018427387904):bits .or .i64 (x:Int) (y:Int)=((x+y:Nat):Int):=by
 have c:(BitVec.ofInt 64 (x:Int)).toNat=x:=by
  rw[nT,dP];exact XX (by omega)
 have d:(BitVec.ofInt 64 (y:Int)).toNat=y:=by
  rw[nT,dP];exact XX (by omega)
 show IntKind.i64.wrap ((BitVec.ofInt 64 (x:Int) ||| BitVec.ofInt 64 (y:Int)).toNat:Int)=_;rw[BitVec.toNat_or,c,d,nat_join i x y a b];exact JL _ ⟨by omega,by omega⟩
def tN(x:Nat):BJ x 4=[UInt8.ofNat (x / 16777216),UInt8.ofNat (x / 65536),UInt8.ofNat (x / 256),UInt8.ofNat x]:=by
 simp only[BJ,JU,F7,Nat.div_div_eq_div_mul]
def KV1(n:Nat):CG (BJ n 4)=[.int .u8 ((n:Int) / 16777216 % 256),.int .u8 ((n:Int) / 65536 % 256),.int .u8 ((n:Int) / 256 % 256),.int .u8 ((n:Int) % 256)]:=by
 rw[tN];simp only[CG,LU,DW,KT,Iw];rw[show((n / 16777216:Nat):Int)=(n:Int) / 16777216 by omega,show((n / 65536:Nat):Int)=(n:Int) / 65536 by omega,show((n / 256:Nat):Int)=(n:Int) / 256 by omega]
def vZ(w:World)(n:Nat):(convert 39 9 (.slice (some ⟨w.heap.size,0,none⟩) 4 4)).run Tryz.prog (w.alloc (.cells #[.int .u8 ((n:Int) / 16777216 % 256),.int .u8 ((n:Int) / 65536 % 256),.int .u8 ((n:Int) / 256 % 256),.int .u8 ((n:Int) % 256)] 5)) = .ok (.string (bsOf (BJ n 4))) (w.alloc (.cells #[.int .u8 ((n:Int) / 16777216 % 256),.int .u8 ((n:Int) / 65536 % 256),.int .u8 ((n:Int) / 256 % 256),.int .u8 ((n:Int) % 256)] 5)):=by
 have:=UR (c:=4) (BS.VS (Has.new w 5 (CG (BJ n 4)).toArray));rw[Bj,KV1]at this;exact this
def ZY(n:Nat)(c:n<=4611686018427387904)(w:World):Calls Tryz.prog 173 #[.int .i64 n] w λe w'=>e = .returned (.string (bsOf (BJ n 4)))/\Below w.heap.size w w':=by
 have a:=vZ w n;obtain⟨S,b⟩:∃ S,bsOf (BJ n 4)=S:=⟨_,rfl⟩;rw[b]at a ⊢;go_enter Tryz.func173,Tryz.ntmps173
 go_wp2
 go_ret;exact⟨rfl,(AU _ _).alloc (AY _) _⟩
def gG(a b c d:UInt8)(r:List UInt8):DC ((a :: b :: c :: d :: r).take 4)=a.toNat*16777216+b.toNat*65536+c.toNat*256+d.toNat:=by
 show DC [a,b,c,d]=_;simp only[DC,dE,List.foldl_nil];omega
def Yf(s:ByteArray)(y:4<=s.size)(w:World):Calls Tryz.prog 114 #[.string s] w λe w'=>e = .returned (.int .i64 (DC (s.data.toList.take 4):Nat))/\Below w.heap.size w w':=by
 have j:0<s.size:=by omega
 have k:1<s.size:=by omega
 have l:2<s.size:=by omega
 have m:3<s.size:=by omega
 have f:s.data.toList=s[0] :: s[1] :: s[2] :: s[3] :: s.data.toList.drop 4:=by
  have e (i:Nat) (h:i<s.size):s.data.toList[i]'(by simpa using h)=s[i]:=by simp[ByteArray.getElem_eq_getElem_data]
  rw[<- e 0 j,<- e 1 k,<- e 2 l,<- e 3 m];rw[<- FQ,<- FQ,<- FQ,<- FQ];rfl
 have E:=Ac (show DC (s.data.toList.take 4)=s[0].toNat*16777216+s[1].toNat*65536+s[2].toNat*256+s[3].toNat by rw[f];exact gG _ _ _ _ _);clear f;rw[E.out];have n:=Ic s[0];have o:=Ic s[1];have p:=Ic s[2];have q:=Ic s[3]
 have O:=Ac (show ∀ a b c d:Nat,a<256->b<256->c<256->d<256->bits .or .i64 (bits .or .i64 (bits .or .i64 ((a:Int)*16777216) ((b:Int)*65536)) ((c:Int)*256)) (d:Int)=((a*16777216+b*65536+c*256+d:Nat):Int)from λa b c d z A r B=>by
  have t:=SH 24 (a*16777216) (b*65536) (by omega) (by omega) (by omega);have u:=SH 16 (a*16777216+b*65536) (c*256) (by omega) (by omega) (by omega);have v:=SH 8 (a*16777216+b*65536+c*256) d (by omega) (by omega) (by omega);rw[<- v,<- u,<- t]
  simp only[nP];rfl)
 have C:(1:Int)<(s.size:Int):=by omega
 have D:(2:Int)<(s.size:Int):=by omega
 have F:(3:Int)<(s.size:Int):=by omega
 go_enter Tryz.func114,Tryz.ntmps114
 go_wp2_with fail
 refine Du (w) (by kernel_rfl) (by kernel_rfl) (CQ.start _) ?_
 repeat
  first
   | go_big_quiet_skip
   |(go_big_quiet_want;(first | go_big_quiet_op | go_simp);first | go_big_quiet_on |(apply NC;refine⟨λw' g=>?_, ?_⟩;(·(first |(with_reducible exact rfl) |(fail) |(obtain⟨r,G⟩:=g.facts;go_simp;first | done |(with_reducible exact rfl) |(with_reducible exact⟨rfl,rfl⟩))));go_big_quiet_on))
 refine MQ ?_;intro H x
 go_wp2_with fail
 go_ret;exact⟨UN (O _ _ _ _ n o p q),x.bel⟩
def Xl(n f p:Nat)(o:n<=4611686018427387904)(c:f<=4611686018427387904)(q:p<=4611686018427387904)(w:World):Calls Tryz.prog 187 #[.int .i64 n,.int .i64 f,.int .i64 p] w λe w'=>e = .returned (.string (bsOf (slotL n f p)))/\Below w.heap.size w w':=by
 have i:=Ac (ZY n o);have j:=Ac (ZY f c);have k:=Ac (ZY p q);have E:=Ac (show bsOf (slotL n f p)=bsOf (BJ n 4)++bsOf (BJ f 4)++bsOf (BJ p 4)++(bsOf (BJ n 4)++bsOf (BJ f 4)++bsOf (BJ p 4))by simp only[Ve,slotL])
 rw[E.out];obtain⟨r,d⟩:∃ s,bsOf (BJ n 4)=s:=⟨_,rfl⟩;obtain⟨t,g⟩:∃ s,bsOf (BJ f 4)=s:=⟨_,rfl⟩;obtain⟨u,h⟩:∃ s,bsOf (BJ p 4)=s:=⟨_,rfl⟩
 have y:r.size=4:=by rw[<- d,Df,Bj]
 have z:t.size=4:=by rw[<- g,Df,Bj]
 have A:u.size=4:=by rw[<- h,Df,Bj]
 simp only[d,g,h]at i j k ⊢;clear E d g h;go_enter Tryz.func187,Tryz.ntmps187
 go_wp2_with (first |(go_at_call 173;(with_reducible refine(i.out _).mono ?_);rintro e w1 ⟨rfl,a⟩;obtain⟨l,c⟩:=Yj a;have b:=a.size;(try simp at b)) |(go_at_call 173;(with_reducible refine(j.out _).mono ?_);rintro e w1 ⟨rfl,a⟩;obtain⟨l,c⟩:=Yj a;have b:=a.size;(try simp at b)) |(go_at_call 173;(with_reducible refine(k.out _).mono ?_);rintro e w1 ⟨rfl,a⟩;obtain⟨l,c⟩:=Yj a;have b:=a.size;(try simp at b)))
 go_ret;rename_i B v _ _ m C hb2 _ _ x;exact⟨rfl,Ap (Ap v hb2 m) a (BN m x)⟩
def Ot(s:ByteArray)(a b:Nat):s.extract a b=bsOf (Bc s.data.toList a (b-a)):=by
 rw[<- WS (s.extract a b),RG]
 congr 1
def ZG:∀(l:List UInt8) (k:Nat),l.length=k->BJ (DC l) k=l:=by
 intro l k
 induction k generalizing l with
 | zero=>intro h;rw[MI h];rfl
 | succ k a =>
   intro h
   obtain⟨r,b,rfl⟩:∃ r b,l=r++[b]:=⟨l.dropLast,l.getLast (by intro e;rw[e]at h;cases h),(List.dropLast_concat_getLast _).symm⟩
   have c:=Ic b;rw[iL,BJ,show(256*DC r+b.toNat) / 256=DC r by omega,a r (by simpa using h)]
   congr 2
   apply lX.1;rw[MR];omega
def Gn(l:List UInt8)(n:Nat):Bc l 0 n=l.take n:=by unfold Bc;rw[GV]
def PF1{t:List UInt8}(a:t.length=24):t.take 12=t.take 4++Bc t 4 4++Bc t 8 4:=by
 refine JC λi=>?_;rw[GZ]
 rcases JR i 4 with h | h
 ·rw[AC (by omega),BU,G9 (by simp;omega),GZ,AC h]
 ·rcases JR i 8 with b | b
  ·rw [AC (by omega),BU,GU (by simp;omega),G9 (by simp [Gy];omega),Ee,AC (by simp;omega)]
   congr 1;simp;omega
  ·rw [BU,GU (by simp;omega),GU (by simp [Gy];omega),Ee];simp only[CU,Gy,a]
   split
   ·rw[AC (by omega)];congr 1;omega
   ·rw[AO (by omega)]
def VC0{t:List UInt8}(a:t.length=24):t.take 12=t.drop 12↔t=slotL (DC (t.take 4)) (DC (Bc t 4 4)) (DC (Bc t 8 4)):=by
 have e:slotL (DC (t.take 4)) (DC (Bc t 4 4)) (DC (Bc t 8 4))=t.take 12++t.take 12:=by
  unfold slotL;rw[ZG _ 4 (by simp;omega),ZG _ 4 (by simp[Gy];omega),ZG _ 4 (by simp[Gy];omega),<- PF1 a]
 rw[e];constructor
 ·intro h
  conv=>lhs;rw[<- DX 12 t,<- h]
 ·intro h
  have:t.drop 12=(t.take 12++t.take 12).drop 12:=by rw[<- h]
  rw[this,VP (by simp;omega),IY (by simp;omega),JU]
def zH {l:List UInt8} {k:Nat} (h:¬ l.length<40+24*k) {t:List UInt8} (d:Bc l (16+24*k) 24=t) {n f p:Nat} (g:DC (t.take 4)=n) (i:DC (Bc t 4 4)=f) (j:DC (Bc t 8 4)=p) :
 Az l k=if t=slotL n f p/\1<=n/\n<=3/\(f=0\/64+1028*f<=l.length)then(n,f,p)else(0,0,0):=by
 have m:t.length=24:=by rw[<- d,Gy];omega
 have e:=VC0 m;unfold Az;rw[AO h];simp only[d,g,i,j];rw[g,i,j]at e
 by_cases a:t=slotL n f p/\1<=n/\n<=3/\(f=0\/64+1028*f<=l.length)
 ·rw [AC a,AO];rintro(b | b | b)
  ·exact b (e.2 a.1)
  ·exact b ⟨a.2.1,a.2.2.1⟩
  ·have:=a.2.2.2;omega
 ·rw [AO a,AC];by_cases b:t.take 12=t.drop 12
  ·refine .inr ?_;by_cases c:1<=n/\n<=3
   ·refine .inr ?_;by_cases o:f=0\/64+1028*f<=l.length
    ·exact absurd ⟨e.1 b,c.1,c.2,o⟩ a
    ·omega
   ·exact .inl c
  ·exact .inl b
def Vw {a:Func} {t u v x:Tmp} (h:a.results = #[.tmp t,.tmp u,.tmp v,.tmp x]) (tmps:Array Value) (P:Program) (w:World) :
 (results a tmps).run P w = .ok (.tuple #[tmps.getD t undef,tmps.getD u undef,tmps.getD v undef,tmps.getD x undef]) w:=by
 simp[results,h]
def QR(l:List UInt8)(k:Nat)(n f p:Nat)(b:Bool):Prop:=b=decide ((Az l k).1≠0)/\(b=true->Az l k=(n,f,p))
def BA1(w:World)(l:List UInt8)(k:Nat)(e:Ending)(w':World):Prop :=
 ∃(n f p:Nat) (b:Bool),e = .returned (.tuple #[.int .i64 n,.int .i64 f,.int .i64 p,.bool b])/\QR l k n f p b/\Below w.heap.size w w'
def QR.mk{l:List UInt8}{k n f p:Nat}{b:Bool}{C:Prop}[Decidable C](h:Az l k=if C then(n,f,p)else(0,0,0))(d:C->1<=n)(c:b=true↔C):QR l k n f p b:=by
 unfold QR;rw[h];by_cases a:C
 ·have:=d a;rw[AC a,c.2 a];exact⟨by simp;omega,λ_=>rfl⟩
 ·have e:b=false:=by cases b with
   | true=>exact absurd (c.1 rfl) a
   | false=>rfl
  rw[AO a,e];exact⟨by simp,λh=>by cases h⟩
def yM{l:List UInt8}{k:Nat}(h:l.length<40+24*k):Az l k=(0,0,0):=AC h
def BG1 (s:ByteArray) (k:Nat) (M:k<2) (N:s.size<=67108864) (w:World) :
 Calls Tryz.prog 183 #[.string s,.int .i64 k] w (BA1 w s.data.toList k):=by
 by_cases g:s.size<40+24*k
 ·have E:=Ac (yM (l:=s.data.toList) (k:=k) (by simpa using g));go_enter Tryz.func183,Tryz.ntmps183
  go_wp2_with fail
  ((try simp only[Exit.inBlock,Exit.then]);refine IQ (Vw rfl _ _ _) rfl ?_)
  exact⟨0,0,0,false,rfl,⟨by rw[E.out];rfl,λh=>by cases h⟩,AU _ _⟩
 ·obtain ⟨T,D⟩:∃ T,s.extract (16+24*k) (40+24*k)=T:=⟨_,rfl⟩
  have m:T.size=24:=by rw[<- D,TJ];omega
  obtain⟨q,A⟩:∃ U,T.extract 4 24=U:=⟨_,rfl⟩;obtain⟨r,B⟩:∃ U,T.extract 8 24=U:=⟨_,rfl⟩
  have K:q.size=20:=by rw[<- A,TJ];omega
  have L:r.size=16:=by rw[<- B,TJ];omega
  have t:=Ac (Yf T (by omega));have u:=Ac (Yf q (by omega));have v:=Ac (Yf r (by omega))
  obtain⟨n,i⟩:∃ n,DC (T.data.toList.take 4)=n:=⟨_,rfl⟩;obtain⟨f,c⟩:∃ n,DC (q.data.toList.take 4)=n:=⟨_,rfl⟩;obtain⟨p,j⟩:∃ n,DC (r.data.toList.take 4)=n:=⟨_,rfl⟩
  have O:n<4294967296:=by rw[<- i];exact RZ 4 _ (by simp;omega)
  have P:f<4294967296:=by rw[<- c];exact RZ 4 _ (by simp;omega)
  have Q:p<4294967296:=by rw[<- j];exact RZ 4 _ (by simp;omega)
  have x:=Ac (Xl n f p (by omega) (by omega) (by omega));obtain⟨S,o⟩:∃ S,bsOf (slotL n f p)=S:=⟨_,rfl⟩;rw[i]at t;rw[c]at u;rw[j]at v;rw[o]at x
  have E:=Ac (show Az s.data.toList k=if T.toList=S.toList/\1<=n/\n<=3/\(f=0\/64+1028*f<=s.size)then(n,f,p)else(0,0,0)by
   have F:T.data.toList=Bc s.data.toList (16+24*k) 24:=by rw[<- D,Ot,Iu];congr 1;omega
   have G:DC (Bc T.data.toList 4 4)=f:=by rw[<- c,<- A,Ot,Iu];unfold Bc;simp[MF]
   have H:DC (Bc T.data.toList 8 4)=p:=by rw[<- j,<- B,Ot,Iu];unfold Bc;simp[MF]
   have:=zH (l:=s.data.toList) (k:=k) (by simpa using g) F.symm i G H;rw[this,EL,EL,<- o,Iu,JX]
   rfl)
  clear o i c j
  obtain rfl | rfl:k=0\/k=1:=by omega
  ·rw [show ((0:Nat):Int)=0 from rfl];go_enter Tryz.func183,Tryz.ntmps183
   go_wp2_with fail
   refine Du (w) (by kernel_rfl) (by kernel_rfl) (CQ.start _) ?_
   repeat
    first
     | go_big_quiet_skip
     |(go_big_quiet_want;(first | go_big_quiet_op | go_simp);first | go_big_quiet_on |(apply NC;refine⟨λw' b=>?_, ?_⟩;(·(first |(with_reducible exact rfl) |(first |(go_at_call 114;(with_reducible refine(t.out _).mono ?_);rintro e w1 ⟨rfl,a⟩;exact⟨rfl,CQ.step b a⟩) |(go_at_call 114;(with_reducible refine(u.out _).mono ?_);rintro e w1 ⟨rfl,a⟩;exact⟨rfl,CQ.step b a⟩) |(go_at_call 114;(with_reducible refine(v.out _).mono ?_);rintro e w1 ⟨rfl,a⟩;exact⟨rfl,CQ.step b a⟩)) |(obtain⟨y,c⟩:=b.facts;go_simp;first | done |(with_reducible exact rfl) |(with_reducible exact⟨rfl,rfl⟩))));go_big_quiet_on))
   refine MQ ?_;intro I d
   go_wp2_with (go_at_call 187;(with_reducible refine(x.out _).mono ?_);rintro e w1 ⟨rfl,a⟩;obtain⟨y,c⟩:=Yj a;have m:=a.size;(try simp at m))
   all_goals
    ((try simp only[Exit.inBlock,Exit.then]);refine IQ (Vw rfl _ _ _) rfl ?_)
    first
     | refine⟨n,f,p,_,rfl,QR.mk E (λh=>h.2.1) ?_,Ap d.bel a d.bel.size⟩
     | refine⟨n,0,p,_,rfl,QR.mk (C:=T.toList=S.toList/\1<=n/\n<=3) ?_ (λh=>h.2.1) ?_,Ap d.bel a d.bel.size⟩
    all_goals first
     | (have z:f=0:=by assumption
        rw[E.out,z];simp;done)
     | (constructor
        ·intro h
         first
          |(cases h;done)
          | exact⟨by assumption,by omega,by omega⟩
          |(refine⟨by assumption,by omega,by omega, ?_⟩;simp at h;omega)
        ·rintro ⟨g,J⟩
         first
          | rfl
          | exact absurd g (by assumption)
          |(exfalso;omega)
          |(simp;omega))
  ·rw [show ((1:Nat):Int)=1 from rfl];go_enter Tryz.func183,Tryz.ntmps183
   go_wp2_with fail
   refine Du (w) (by kernel_rfl) (by kernel_rfl) (CQ.start _) ?_
   repeat
    first
     | go_big_quiet_skip
     |(go_big_quiet_want;(first | go_big_quiet_op | go_simp);first | go_big_quiet_on |(apply NC;refine⟨λw' b=>?_, ?_⟩;(·(first |(with_reducible exact rfl) |(first |(go_at_call 114;(with_reducible refine(t.out _).mono ?_);rintro e w1 ⟨rfl,a⟩;exact⟨rfl,CQ.step b a⟩) |(go_at_call 114;(with_reducible refine(u.out _).mono ?_);rintro e w1 ⟨rfl,a⟩;exact⟨rfl,CQ.step b a⟩) |(go_at_call 114;(with_reducible refine(v.out _).mono ?_);rintro e w1 ⟨rfl,a⟩;exact⟨rfl,CQ.step b a⟩)) |(obtain⟨y,c⟩:=b.facts;go_simp;first | done |(with_reducible exact rfl) |(with_reducible exact⟨rfl,rfl⟩))));go_big_quiet_on))
   refine MQ ?_;intro I d
   go_wp2_with (go_at_call 187;(with_reducible refine(x.out _).mono ?_);rintro e w1 ⟨rfl,a⟩;obtain⟨y,c⟩:=Yj a;have m:=a.size;(try simp at m))
   all_goals
    ((try simp only[Exit.inBlock,Exit.then]);refine IQ (Vw rfl _ _ _) rfl ?_)
    first
     | refine⟨n,f,p,_,rfl,QR.mk E (λh=>h.2.1) ?_,Ap d.bel a d.bel.size⟩
     | refine⟨n,0,p,_,rfl,QR.mk (C:=T.toList=S.toList/\1<=n/\n<=3) ?_ (λh=>h.2.1) ?_,Ap d.bel a d.bel.size⟩
    all_goals first
     | (have z:f=0:=by assumption
        rw[E.out,z];simp;done)
     | (constructor
        ·intro h
         first
          |(cases h;done)
          | exact⟨by assumption,by omega,by omega⟩
          |(refine⟨by assumption,by omega,by omega, ?_⟩;simp at h;omega)
        ·rintro ⟨g,J⟩
         first
          | rfl
          | exact absurd g (by assumption)
          |(exfalso;omega)
          |(simp;omega))

def Step(S:World->Prop)(Q:Int->World->Prop)(e:Ending)(w':World):Prop:=∃ r:Int,e = .returned (.int .i64 r)/\((r=0/\S w')\/(r≠0/\Q r w'))
def QS1(Q:Int->World->Prop)(e:Ending)(w':World):Prop:=∃ r:Int,e = .returned (.int .i64 r)/\Q r w'
def rP (fs:List (FuncId×Array Value)) (g n:Nat) (w:World) (S:Nat->World->Prop) (Q:Int->World->Prop) (s:fs.length=n) (G:n<=4)
 (m:∀ i u,S i u->∀ j k cs,fs[j]? = some (k,cs)->u.cell? ⟨g,j,none⟩=some (.func (.func k) #[] cs))
 (p:∀(i:Nat) k cs,fs[i]? = some (k,cs)->∀ u,(callFunc k cs).run Tryz.prog u = .ok (.enter k cs) u)
 (o:∀(i:Nat) k cs,fs[i]? = some (k,cs)->∀ u,S i u->Calls Tryz.prog k cs u (Step (S (i+1)) Q))
 (q:∀ u,S n u->Q 0 u) (t:S 0 w) :
 Calls Tryz.prog 116 #[.slice (some ⟨g,0,none⟩) n n] w (QS1 Q):=by
 have z:=Ac m;have A:=Ac o;have B:=Ac q;have b:=Ac p;have C:=Ac s;have D:=Ac t;clear m o p q s t;go_enter Tryz.func116,Tryz.ntmps116
 go_wp2_with fail
 go_loopw [8] (λl wr=>∃ i:Nat,i<=n/\l = .int .i64 i/\S i wr) (λl _=>n-(intOf l).toNat)
 case atStart=>exact⟨0,BR _,rfl,D⟩
 case round =>
  obtain⟨i,I,rfl,a⟩:=hrel;by_cases x:i<n
  ·obtain⟨k,cs,c⟩:∃ k cs,fs[i]? = some (k,cs):=by
    have E:i<fs.length:=by rw[C.out];exact x
    exact⟨fs[i].1,fs[i].2,DK E⟩
   have c0:=z i wr a i k cs c;have F:=Ac (A i k cs c wr a);have H:=b i k cs c wr;clear a c
   go_wp2_with ((with_reducible refine F.out.mono ?_);rintro e w1 ⟨r,rfl,v⟩;have b:=Ac v;clear v)
   ·go_ret;rename_i d
    have f:r≠0:=by simpa using d
    exact⟨r,rfl,b.elim (λh=>absurd h.1 f) (λh=>h.2)⟩
   ·rename_i d
    have f:r=0:=by simpa using d
    refine⟨⟨i+1,by omega,by simp,b.elim (λh=>h.2) (λh=>absurd f h.1)⟩, ?_⟩;simp[intOf];omega
  ·obtain rfl:i=n:=by omega
   have y:=Ac (B _ a);clear a
   go_wp2_with fail
   go_ret;exact⟨0,rfl,y⟩
open Go.Maps
def Ol:Keyed Tryz.prog 3 := int_keyed IB
def NP1(w:World):(zeroValue 3).run Tryz.prog w = .ok (.int .i64 0) w:=by kernel_rfl
def MP(w:World)(b n:Nat)(f:Int->Nat):Prop:=∃ D:DataW Unit,w.ownsMap Tryz.prog 3 (plainElem Tryz.prog 3) b n D/\∀ x:Int,D.atKey (.int .i64 x) (.lit (.int .i64 0)) = .lit (.int .i64 (f x))
def MP.lt{w:World}{b n:Nat}{f:Int->Nat}(h:MP w b n f):b<w.heap.size:=by
 obtain⟨D,a,c⟩:=h;exact a.lt
def MP.block{w w':World}{b n:Nat}{f:Int->Nat}(h:MP w b n f)(a:w'.heap[b]? = w.heap[b]?):MP w' b n f:=by
 obtain⟨D,⟨c,cl,d,e⟩,g⟩:=h;exact⟨D,⟨c,cl,a.trans d,e⟩,g⟩
def MP.below{w w':World}{b n:Nat}{f:Int->Nat}(h:MP w b n f)(a:Below w.heap.size w w'):MP w' b n f:=h.block (a.block b h.lt)
def MP.made(w:World):MP (w.alloc (.map #[] 0)) w.heap.size 0 (λ_=>0):=⟨_,World.ownsMap_made _ _ _ _,λx=>rfl⟩
def GO1(n:Nat)(w:World):(Instr.makeMap 104 (some (.int .i64 n))).run Tryz.prog w = .ok (.map (some w.heap.size)) (w.alloc (.map #[] 0)):=by
 simp[Instr.makeMap,asInt,asIntOf]
def KX1(w:World)(a p n:Nat)(f:Int->Nat)(e:Ending)(w':World):Prop :=
 ∃ b',e = .returned (.agg #[.int .i64 a,.int .i64 p,.map (some b')])/\MP w' b' n f/\w.heap.size<=b'/\Below w.heap.size w w'
def Ug (b a p n:Nat) (f:Int->Nat) (w:World) (hn:n<=1000000) (h:MP w b n f) :
 Calls Tryz.prog 115 #[.agg #[.int .i64 a,.int .i64 p,.map (some b)]] w (KX1 w a p n f):=by
 obtain⟨d,k,E⟩:=h;have Z:=GO1;have aa:=k.lt;have ab:=k.size_le;have U:=Ac E;have F:=Ac (Has.new w 179 #[.int .i64 a,.int .i64 p,.map (some b)]);clear E;go_enter Tryz.func115,Tryz.ntmps115
 go_wp2_with (first
  |(at_len;refine wpList_len_own _ rfl _ 104 rfl 3 3 PU _ b n d rfl ((k.alloc _).alloc _) ?_)
  |(at_range;refine lT _ rfl _ 104 rfl 3 3 Ol PU _ b n _ rfl (((k.alloc _).alloc _).alloc _) ?_;intro w0 t l C)
  | go_in)
 go_frame
 have G:(((w.alloc (.cells #[.int .i64 a,.int .i64 p,.map (some b)] 179)).alloc (.cells #[.int .i64 0,.int .i64 0,.map none] 179)).alloc (.map #[] 0)).heap.size=w.heap.size+1+1+1:=by simp
 have A:=Ac (Has.new (w.alloc (.cells #[.int .i64 a,.int .i64 p,.map (some b)] 179)) 179 #[.int .i64 0,.int .i64 0,.map none]);rw[ED]at A;rw[G]at t C ⊢;have v:=Ac (World.ownsMap_made (H:=Unit) ((w.alloc (.cells #[.int .i64 a,.int .i64 p,.map (some b)] 179)).alloc (.cells #[.int .i64 0,.int .i64 0,.map none] 179)) Tryz.prog 3 (plainElem Tryz.prog 3));rw[ED,ED]at v
 go_loopw [4] (λ_ wr=>∃ (left:Lit->Bool) (cnt:Nat) (u:DataW Unit),wr.ranges Tryz.prog 3 (plainElem Tryz.prog 3) b (w.heap.size+1+1+1) n d left cnt/\cnt<=Maps.size d /\
  wr.ownsMap Tryz.prog 3 (plainElem Tryz.prog 3) (w.heap.size+1+1) (Maps.size d-cnt) u/\Agree u d left/\Below w.heap.size w wr /\
  Has wr w.heap.size 179 #[.int .i64 a,.int .i64 p,.map (some b)]/\Has wr (w.heap.size+1) 179 #[.int .i64 0,.int .i64 0,.map none])
  (λ_ wr=>wr.rangeLeft b (w.heap.size+1+1+1))
 case atStart =>
  exact ⟨_,_,.map [],t,AY _,(v.kept l (by simp)).mono (BR _),agree_start d,((((AU _ _).alloc (AY _) _).alloc (by simp) _).alloc (by simp;omega) _).grown l (by simp;omega) (λj m=>by cases m),
   ((F.alloc _).alloc _).grown l (by simp),(A.alloc _).grown l (by simp)⟩
 case round =>
  obtain⟨left,cnt,u,D,ac,o,I,q,g,i⟩:=hrel;have V:=Ac g;have J:=Ac i
  obtain⟨c0,c1,c2,d0,d1,d2⟩:=(show wr.cell? ⟨w.heap.size,0,none⟩=some (.int .i64 a)/\wr.cell? ⟨w.heap.size,1,none⟩=some (.int .i64 p)/\wr.cell? ⟨w.heap.size,2,none⟩=some (.map (some b))/\wr.cell? ⟨w.heap.size+1,0,none⟩=some (.int .i64 0)/\wr.cell? ⟨w.heap.size+1,1,none⟩=some (.int .i64 0)/\wr.cell? ⟨w.heap.size+1,2,none⟩=some (.map none)from⟨g.cell 0,g.cell 1,g.cell 2,i.cell 0,i.cell 1,i.cell 2⟩)
  have cf:=g.frozen;have ad:=i.frozen;clear g i F A v t l C G
  go_wp2_with (first
   |(at_next;refine wpList_next_ranges_ii _ rfl _ rfl 3 3 .i64 .i64 Ol IB IB b (w.heap.size+1+1+1) n _ _ _ rfl D ?_ ?_)
   | go_in)
  ·intro O P
   go_wp2
   subst O;have e:=agree_end I P (o.canon Ol) (k.canon Ol);subst e;have W:=(J.far (p:=⟨w.heap.size,2,none⟩) (by simp) (.map (some (w.heap.size+1+1)))).tK (x:=.int .i64 a) (y:=.int .i64 p) (z:=.map (some (w.heap.size+1+1)));have X:=(((o.setCell (a:=⟨w.heap.size,2,none⟩) (by simp;omega) (.map (some (w.heap.size+1+1)))).setCell (a:=⟨w.heap.size+1,0,none⟩) (by simp) (.int .i64 a)).setCell (a:=⟨w.heap.size+1,1,none⟩) (by simp) (.int .i64 p)).setCell (a:=⟨w.heap.size+1,2,none⟩) (by simp) (.map (some (w.heap.size+1+1)))
   have Y:=(((q.setCell (p:=⟨w.heap.size,2,none⟩) (AY _) (.map (some (w.heap.size+1+1)))).setCell (p:=⟨w.heap.size+1,0,none⟩) (by simp) (.int .i64 a)).setCell (p:=⟨w.heap.size+1,1,none⟩) (by simp) (.int .i64 p)).setCell (p:=⟨w.heap.size+1,2,none⟩) (by simp) (.map (some (w.heap.size+1+1)));refine IQ (results_cell_row rfl _ _ (w.heap.size+1) 179 _ (0,0) _ rfl W Tryz.underlying179 rfl (by kernel_rfl)) rfl ?_;exact⟨_,rfl,⟨_,X.mono (by omega),U⟩,by omega,Y⟩
  ·intro x c w1 M Q R ae S N T r af ag;have K:=o.kept r (by simp)
   go_wp2_with (first
    |(at_mapUpdate;refine wpList_mapUpdate_own _ rfl _ _ _ 104 rfl 3 3 Ol PU _ (w.heap.size+1+1) _ _ rfl K (by unfold maxLen;omega) _ _ _ rfl rfl (keyOf_int_mk IB Q) _ [] (plainElem_int IB R) ?_;intro w2 L s;go_frame)
    | go_in)
   have B:=N.kept s (λe=>by have:=CV e;omega) (λe=>by have:=CV e;omega)
   go_roundw
   case rel =>
    exact ⟨_,M,_,B,by omega,L.mono (by omega),agree_step I o.isMap trivial S,
     (q.grown r q.size (λj m=>by cases m;omega)).grown s (by have:=q.size;omega) (λj m=>by cases m;omega),
     (V.grown r (by simp <;> omega)).grown s (by simp <;> omega),(J.grown r (by simp <;> omega)).grown s (by simp <;> omega)⟩
   case measure=>rw[B.left_eq,D.left_eq];exact T
structure Rw where
 D:Dk
 nf:Nat
 np:Nat
 f1:Int->Nat
 kf:Nat
 kp:Nat
 f2:Int->Nat
 slot:Nat
 number:Nat
def WG(gd m1 m2:Nat)(R:Rw):Array Value:=#[.pointer (some ⟨gd,0,none⟩),.int .i64 R.nf,.int .i64 R.np,.map (some m1),.int .i64 R.kf,.int .i64 R.kp,.map (some m2),.int .i64 R.slot,.int .i64 R.number]
def lb(g m1 m2:Nat):List (Option Nat):=[some g,some m1,some m2]
structure LR (w:World) (b:List (Option Nat)) (gd g m1 m2:Nat) (R:Rw):Prop where
 disk:DP w b gd R.D
 has:Has w g 181 (WG gd m1 m2 R)
 map1:MP w m1 R.nf R.f1
 map2:MP w m2 R.kf R.f2
 ne:m1≠m2
 apart:QO b (lb g m1 m2)
def fE{w:World}{g m:Nat}{t:TypeId}{cs:Array Value}{n:Nat}{f:Int->Nat}(h:Has w g t cs)(b:MP w m n f):g≠m:=by
 rintro rfl;obtain⟨D,⟨c,cl,a,_⟩,_⟩:=b;unfold Has at h;rw[h]at a;cases a
def MP.turn{w w':World}{b b':List (Option Nat)}{m n:Nat}{f:Int->Nat}(h:MP w m n f)(a:Turn b b' w w')(c:some m∉b):MP w' m n f:=h.block (a.block m h.lt c)
def DP.turn{w w':World}{b c c':List (Option Nat)}{g:Nat}{D:Dk}(h:DP w b g D)(a:Turn c c' w w')(d:QO c b):DP w' b g D:=by
 obtain⟨e,f,i,j,k,rfl,l⟩:=h;exact⟨e,f,i,j,k,rfl,l.far a d⟩
def Turn.left{w w':World}{b b':List (Option Nat)}(c:List (Option Nat))(h:Turn b b' w w'):Turn (b++c) (b'++c) w w' :=
 ⟨h.os,h.tape,h.output,h.size,λk d e=>h.block k d (λa=>e (BL _ a)),λk d=>by
   rcases BO.1 d with a | a
   ·exact(h.new k a).imp (BL _) id
   ·exact .inl (BC _ a)⟩
def Turn.right{w w':World}{b b':List (Option Nat)}(c:List (Option Nat))(h:Turn b b' w w'):Turn (c++b) (c++b') w w' :=
 ⟨h.os,h.tape,h.output,h.size,λk d e=>h.block k d (λa=>e (BC _ a)),λk d=>by
   rcases BO.1 d with a | a
   ·exact .inl (BL _ a)
   ·exact(h.new k a).imp (BC _) id⟩
def Turn.wide{w w':World}{b b' c c':List (Option Nat)}(h:Turn b b' w w')(e:∀ k,some k∈b->some k∈c)(f:∀ k,some k∈c'->some k∈b'\/some k∈c):Turn c c' w w' :=
 ⟨h.os,h.tape,h.output,h.size,λk d g=>h.block k d (λa=>g (e k a)),λk d=>by
   rcases f k d with a | a
   ·exact(h.new k a).imp (e k) id
   ·exact .inl a⟩
def Turn.grown{w w':World}{m:Nat}(h:w.grownBy w' (some m)):Turn [some m] [some m] w w' :=
 ⟨h.os,h.tape,h.output,h.size,λk a b=>h.block k a (λe=>b (by rw[e];exact BH.2 rfl)),λk a=>.inl a⟩
def Ht{g m1 m2 k:Nat}:some k∈lb g m1 m2↔k=g\/k=m1\/k=m2:=by
 simp[lb]
section
variable {w w':World} {b b':List (Option Nat)} {gd g m1 m2:Nat} {R:Rw}
def LR.ne1(h:LR w b gd g m1 m2 R):g≠m1:=fE h.has h.map1
def LR.YP(h:LR w b gd g m1 m2 R):g≠m2:=fE h.has h.map2
def LR.off(h:LR w b gd g m1 m2 R):some g∉b/\some m1∉b/\some m2∉b :=
 ⟨λa=>h.apart g a (Ht.2 (.inl rfl)),λa=>h.apart m1 a (Ht.2 (.inr (.inl rfl))),λa=>h.apart m2 a (Ht.2 (.inr (.inr rfl)))⟩
def LR.lt(h:LR w b gd g m1 m2 R){k:Nat}(c:some k∈b++lb g m1 m2):k<w.heap.size:=by
 rcases BO.1 c with a | a
 ·exact h.disk.lt a
 ·rcases Ht.1 a with rfl | rfl | rfl
  ·exact h.has.lt
  ·exact h.map1.lt
  ·exact h.map2.lt
def LR.below(h:LR w b gd g m1 m2 R)(a:Below w.heap.size w w'):LR w' b gd g m1 m2 R :=
 ⟨h.disk.below a,h.has.Ai a,h.map1.below a,h.map2.below a,h.ne,h.apart⟩
def LR.far{c c':List (Option Nat)}(h:LR w b gd g m1 m2 R)(d:Turn c c' w w')(e:QO c (b++lb g m1 m2)):LR w' b gd g m1 m2 R :=
 ⟨h.disk.turn d λk f a=>e k f (BL _ a),h.has.turn d λa=>e g a (BC _ (Ht.2 (.inl rfl))),
   h.map1.turn d λa=>e m1 a (BC _ (Ht.2 (.inr (.inl rfl)))),h.map2.turn d λa=>e m2 a (BC _ (Ht.2 (.inr (.inr rfl)))),h.ne,h.apart⟩
def LR.PN{D':Dk}(h:LR w b gd g m1 m2 R)(e:DP w' b' gd D')(a:Turn b b' w w'):LR w' b' gd g m1 m2 { R with D:=D' }/\Turn (b++lb g m1 m2) (b'++lb g m1 m2) w w':=by
 obtain⟨f,i,j⟩:=h.off;refine⟨⟨e,h.has.turn a f,h.map1.turn a i,h.map2.turn a j,h.ne,λk l c=>?_⟩,a.left _⟩
 rcases a.new k l with d | d
 ·exact h.apart k d c
 ·have:=h.lt (BC b c);omega
def Turn.cell(g i:Nat)(u:Value)(w:World):Turn [some g] [some g] w (w.setCell ⟨g,i,none⟩ u):=Turn.grown (grownBy_setCell ⟨g,i,none⟩ u)
def LR.set (h:LR w b gd g m1 m2 R) (i:Nat) (u:Value) (R':Rw) (f:(WG gd m1 m2 R).setIfInBounds i u=WG gd m1 m2 R') (j:R'.D=R.D) (l:MP w m1 R'.nf R'.f1) (d:MP w m2 R'.kf R'.f2) :
 LR (w.setCell ⟨g,i,none⟩ u) b gd g m1 m2 R'/\Turn (b++lb g m1 m2) (b++lb g m1 m2) w (w.setCell ⟨g,i,none⟩ u):=by
 have c:=Turn.cell g i u w;refine⟨⟨j ▸ h.disk.turn c λk a d=>?_,f ▸ h.has.set i u,l.turn c λe=>?_,d.turn c λe=>?_,h.ne,h.apart⟩,c.wide (λk a=>?_) (λk a=>.inr a)⟩
 ·have:k=g:=by simpa using a
  subst this;exact h.off.1 d
 ·exact h.ne1 (by simpa using e:m1=g).symm
 ·exact h.YP (by simpa using e:m2=g).symm
 ·have:k=g:=by simpa using a
  exact BC _ (Ht.2 (.inl this))
end
def DR1{w w':World}{x a y:List (Option Nat)}(d:QO x y)(e:Turn x a w w')(f:∀ k,some k∈y->k<w.heap.size):QO a y:=λk g b=>by
 rcases e.new k g with c | c
 ·exact d k c b
 ·have:=f k b;omega
end Go.Proofs.YtjihboddejaelaaGreat
namespace Go.Proofs.YtjihboddejaelaaGreat
open Go.RowKit Go.BigFrame
def zI(A:Option Addr)(m c a:Nat)(h:a<=c)(w:World):(Instr.sliceAt 52 (.slice A m c) none (some (.int .i64 a)) none).run Tryz.prog w = .ok (.slice A a c) w:=by
 have b:(0:Int)<=(a:Int):=by omega
 have d:(a:Int)<=(c:Int):=by omega
 go_simp
def CS1(A:Option Addr)(n c:Nat)(a:n<=c)(w:World):Calls Tryz.prog 21 #[.slice A n c] w λe w'=>e = .returned (.slice A (min n 250) c)/\w=w':=by
 by_cases h:n<=250
 ·have E:=Ac (show min n 250=n by omega);rw[E.out]
  have b:min (n:Int) 250=(n:Int):=by omega
  have d:=λw=>zI A n c n a w;go_enter Tryz.func21,Tryz.ntmps21
  go_wp2_with fail
  go_ret;exact⟨rfl,rfl⟩
 ·have E:=Ac (show min n 250=250 by omega);rw[E.out]
  have b:min (n:Int) 250=250:=by omega
  have d:=λw=>zI A n c 250 (by omega) w;go_enter Tryz.func21,Tryz.ntmps21
  go_wp2_with fail
  go_ret;exact⟨rfl,rfl⟩
end Go.Proofs.YtjihboddejaelaaGreat
namespace Go.Proofs.YtjihboddejaelaaGreat
open Go.ChangeShapes Go.WideShapes Go.ChangeAt Go.RowKit
def gQ:ownKnob Tryz.prog.godebug=none:=by kernel_rfl
def JH1:laidOutB Tryz.prog=true:=by kernel_rfl
def uD : Tryz.prog.cellsOf 3 = 1:=by kernel_rfl
def DM0 : Tryz.prog.cellsOf 9 = 1:=by kernel_rfl
def YQ0 : Tryz.prog.cellsOf 43 = 1:=by kernel_rfl
def TT0 : Tryz.prog.cellsOf 44 = 1:=by kernel_rfl
def DM1 : Tryz.prog.bytesOf 3 = 8:=by kernel_rfl
def sG{W:World}{a:Addr}{u:Value}(c0:W.cell? (a.add 0)=some u):a.spot=none/\a.block<W.heap.size:=by
 have c:a.spot=none:=by
  unfold World.cell? at c0
  cases e:a.spot with
  | none=>rfl
  | some q =>
    exfalso
    have:(a.add 0).spot=some q:=by simp[Addr.add,e]
    rw[this]at c0
    split at c0 <;> simp at c0
 refine⟨c, ?_⟩;obtain⟨b,off,f⟩:=a;simp only at c;subst c;unfold World.cell? at c0
 rcases JR b W.heap.size with d | d
 ·exact d
 ·rw [show ((⟨b,off,none⟩:Addr).add 0).block=b from rfl,nV d] at c0
  cases c0
section
variable {H:Type} {enc:TypeId×Value->H} {W:World}
def GL1 {w:Nat} {cs:List Value} {x:DataW H×List MemPlace} (h:DataW.trod enc Tryz.prog W 0 (λ_=>true) true w 43 cs=some x) :
 ∃(A:Option Addr) (n c:Nat) (l:List Int),cs=[.slice A n c]/\IS W A n l/\(0<n->∀ k,iK A=some k->k<W.heap.size)/\n<=c/\((c=0/\x.1 = .nil)\/∃ e r,x.1 = .slice e r/\e.length+r.length=c):=by
 rcases Go.Deep.open_slice1 lZ uD h with⟨f,j⟩ |⟨a,len,cap,m,k,V,D,Pl,f,_,E,I,q,j,d⟩
 ·subst j;exact⟨none,0,0,[],f,⟨rfl,λh=>absurd h (by omega)⟩,(λ_ k o=>by cases o),AY _,.inl ⟨rfl,rfl⟩⟩
 ·simp only [if_true] at q;subst q;subst j
  have s:∀ i,i<m->∃ z:Int,V i = .int .i64 z:=λi y=>by
   obtain⟨z,t,_,_⟩:=dN IB (d i y).2;simp at t;exact⟨z,t⟩
  by_cases B:m=0
  ·subst B
   have:len=0:=by omega
   subst this;exact⟨some a,0,0,[],f,⟨rfl,λh=>absurd h (by omega)⟩,λh=>absurd h (by omega),AY _,.inr ⟨[],[],rfl,rfl⟩⟩
  ·have c0:=(d 0 (by omega)).1;obtain⟨u,p⟩:=sG c0;obtain⟨b,off,G⟩:=a;simp only at u p;subst u
   obtain⟨Z,F⟩:∃ Z:Nat->Int,∀ i,i<m->V i = .int .i64 (Z i):=⟨λi=>if h:i<m then(s i h).choose else 0,λi d=>by have:=(s i d).choose_spec;simp only[dif_pos d];exact this⟩
   refine⟨some ⟨b,off,none⟩,len,m,(List.range len).map Z,f,⟨by simp,λ_=>⟨b,off,rfl,p,λi z g=>?_⟩⟩,(λ_ k o=>by cases o;exact p),E,.inr ⟨_,_,rfl,by simp;omega⟩⟩
   have C:i<len:=by
    have:=(C9.1 g).1;simpa using this
   rw[GH,YG C]at g;have v:=(d i (by omega)).1;rw[addr_add,F i (by omega)]at v;rw[v];simp at g;rw[g]
end
def Qo {H:Type} {P:Program} {e:TypeId} {d:DataW H}:∀ {l:List (DataW H)},d∈l->∀ n∈d.weights P e,n∈DataW.weightsAll P e l
 | x :: l,hd,n,hn=>by
   simp only[DataW.weightsAll,BO]
   rcases BI.1 hd with rfl | h
   ·exact Or.inl hn
   ·exact Or.inr (Qo h n hn)
def NS1{n:Int}(h:(Lit.int .i64 n).wf=true):n<=9223372036854775807:=by
 have : -9223372036854775808<=n/\n<=9223372036854775807:=by
  simpa[Lit.wf,IntKind.min,IntKind.max,IntKind.bits,IntKind.signed]using h
 exact this.2
def qR : Tryz.prog.cellsOf 61 = 8:=by kernel_rfl
section
variable {H:Type} {enc:TypeId×Value->H} {W:World}
structure QM (W:World) (a:Us) (y:DataW H):Prop where
 keep:IS W a.kA a.kn a.ks
 lt:0<a.kn->∀ k,iK a.kA=some k->k<W.heap.size
 cap:a.kn<=a.kc
 s:a.s.size<=maxLen
 n:(Lit.int .i64 a.n).wf=true
 f:(Lit.int .i64 a.f).wf=true
 data:∃ x0 x1 x2 x3 x4 x5 kd cd,y = .agg [x0,x1,x2,x3,x4,x5,kd,cd]/\(x4 = .lit (.string a.s.data.toList)/\x5 = .lit (.string a.t.data.toList))/\((a.kc=0/\kd = .nil)\/∃ e r,kd = .slice e r/\e.length+r.length=a.kc)
def KW1{w:Nat}{cs:List Value}{x:DataW H×List MemPlace}(h:DataW.trod enc Tryz.prog W 0 (λ_=>true) true w 61 cs=some x):∃ a:Us,cs=a.arr.toList/\QM W a x.1:=by
 obtain⟨xs,n,_,B,d,y,b⟩:=DataW.trod_struct Tryz.underlying61 h;rw[qR]at d
 match cs,d,xs,y with
 | [c0,c1,c2,c3,c4,c5,c6,c7],_,[y0,y1,y2,y3,y4,y5,y6,y7],_ =>
   have e:DataW.trod enc Tryz.prog W 0 (λ_=>true) true n 3 (([c0,c1,c2,c3,c4,c5,c6,c7].drop 0).take (Tryz.prog.cellsOf 3))=some y0:=b 0 _ rfl;have f:DataW.trod enc Tryz.prog W 0 (λ_=>true) true n 3 (([c0,c1,c2,c3,c4,c5,c6,c7].drop 1).take (Tryz.prog.cellsOf 3))=some y1:=b 1 _ rfl;have g:DataW.trod enc Tryz.prog W 0 (λ_=>true) true n 3 (([c0,c1,c2,c3,c4,c5,c6,c7].drop 2).take (Tryz.prog.cellsOf 3))=some y2:=b 2 _ rfl;have i:DataW.trod enc Tryz.prog W 0 (λ_=>true) true n 3 (([c0,c1,c2,c3,c4,c5,c6,c7].drop 3).take (Tryz.prog.cellsOf 3))=some y3:=b 3 _ rfl;have j:DataW.trod enc Tryz.prog W 0 (λ_=>true) true n 9 (([c0,c1,c2,c3,c4,c5,c6,c7].drop 4).take (Tryz.prog.cellsOf 9))=some y4:=b 4 _ rfl
   have l:DataW.trod enc Tryz.prog W 0 (λ_=>true) true n 9 (([c0,c1,c2,c3,c4,c5,c6,c7].drop 5).take (Tryz.prog.cellsOf 9))=some y5:=b 5 _ rfl;have m:DataW.trod enc Tryz.prog W 0 (λ_=>true) true n 43 (([c0,c1,c2,c3,c4,c5,c6,c7].drop 6).take (Tryz.prog.cellsOf 43))=some y6:=b 6 _ rfl;have o:DataW.trod enc Tryz.prog W 0 (λ_=>true) true n 44 (([c0,c1,c2,c3,c4,c5,c6,c7].drop 7).take (Tryz.prog.cellsOf 44))=some y7:=b 7 _ rfl;simp only[uD,DM0,YQ0,TT0,GV,IC,DY,DZ]at e f g i j l m o;obtain⟨C,p,Z,w0⟩:=dN IB e;obtain⟨D,q,h1,w1⟩:=dN IB f;obtain⟨E,r,h2,w2⟩:=dN IB g;obtain⟨F,s,h3,G⟩:=dN IB i;obtain⟨I,t,J,K⟩:=DataW.trod_string VD j
   obtain⟨L,u,M,w5⟩:=DataW.trod_string VD l;obtain⟨N,O,P,Q,v,R,S,z,T⟩:=GL1 m
   obtain⟨U,V,X,Y⟩:∃ A n k,c7 = .slice A n k:=by
    rcases Go.Deep.open_slice1 QT DM0 o with⟨c,_⟩ |⟨a,len,cap,_,_,_,_,_,c,_⟩
    ·simp at c;exact⟨_,_,_,c⟩
    ·simp at c;exact⟨_,_,_,c⟩
   simp at p q r s t u v;subst p q r s t u v Y B;exact⟨⟨C,D,E,F,I,L,N,O,P,Q,U,V,X⟩,rfl,R,S,z,K,G,w1,⟨_,_,_,_,_,_,_,_,rfl,⟨by rw[J],by rw[M]⟩,T⟩⟩
def FS1 {A:Option Addr} {n c:Nat} {d:DataW H} {p:List MemPlace} (h:DataW.Trod enc Tryz.prog W 0 (λ_=>true) true 52 (.slice A n c) d p) :
 ∃ r:List Us,r.length=n/\(0<n->∃ b off,A=some ⟨b,off,none⟩/\b<W.heap.size/\∀ i a,r[i]? = some a->∀ j u,a.arr[j]? = some u->W.cell? ⟨b,off+i*8+j,none⟩=some u)/\n<=c /\
   ∀ a∈r,∃ y t E,d = .slice t E/\y∈t/\QM W a y:=by
 obtain⟨P,I⟩:=h
 rcases Go.Deep.open_slice lY I with⟨f,l⟩ |⟨a,len,cap,m,k,D,Pl,f,_,J,T,w,l,e⟩
 ·simp [Value.cells] at f;obtain⟨rfl,rfl,rfl⟩:=f;exact⟨[],rfl,(λh=>absurd h (by omega)),AY _,λa K=>by cases K⟩
 ·simp [Value.cells] at f;obtain⟨rfl,rfl,rfl⟩:=f;simp only[if_true]at w;subst w;rw[qR]at e l;simp only[Prod.mk.injEq]at l
  have o:∀ i,i<m->∃ v:Us,QM W v (D i)/\∀ j u,v.arr[j]? = some u->W.cell? (a.add (i*8+j))=some u:=λi F=>by
   obtain⟨S,L,M⟩:=e i F;obtain⟨v,rfl,N⟩:=KW1 M;obtain⟨_,Q,C⟩:=World.cells?_some L;refine⟨v,N,λj u q=>?_⟩
   have O:j<8:=by
    have:=(LK.1 q).1;simpa[Us.arr]using this
   rw[<- Go.Deep.add_add,C j O];simpa using q
  obtain⟨V,s⟩:∃ V:Nat->Us,∀ i,i<m->QM W (V i) (D i)/\∀ j u,(V i).arr[j]? = some u->W.cell? (a.add (i*8+j))=some u :=
   ⟨λi=>if h:i<m then(o i h).choose else⟨0,0,0,0,⟨#[]⟩,⟨#[]⟩,none,0,0,[],none,0,0⟩,λi e=>by have:=(o i e).choose_spec;simp only[dif_pos e];exact this⟩
  refine⟨(List.range n).map V,by simp,λU=>?_,J, ?_⟩
  ·have c0:=(s 0 (by omega)).2 0 _ rfl;rw[show 0*8+0=0 from rfl]at c0;obtain⟨z,B⟩:=sG c0;obtain⟨b,off,R⟩:=a;simp only at z B;subst z;refine⟨b,off,rfl,B,λi v e j u q=>?_⟩
   have x:i<n:=by
    have:=(C9.1 e).1;simpa using this
   have G:V i=v:=by
    rw[GH,YG x]at e;simpa using e
   have g:=(s i (by omega)).2;rw[G]at g;have:=g j u q;rw[addr_add]at this;simpa[TA]using this
  ·intro v o;obtain⟨i,e,rfl⟩:=DI.1 o;have x:=cO.1 e;exact⟨D i,_,_,l.1,DI.2 ⟨i,e,rfl⟩,(s i (by omega)).1⟩
end
def MS1 {H:Type} {W:World} {c:List TypeId} {d:List (DataW H)} (h:(DataW.weightsEach Tryz.prog c d).all (·<= reachBytes)=true) {j:Nat} {b g:List (DataW H)} (k:c[j]? = some 52) (l:d[j]? = some (.slice b g))
 {y:DataW H} (m:y∈b) {a:Us} (f:QM W a y):a.kn*8<=140737488355328:=by
 obtain⟨s,u,v,w,x,z,kd,A,rfl,_,n⟩:=f.data;have q:=f.cap;have o:reachBytes=140737488351232:=rfl
 rcases n with⟨B,_⟩ |⟨e,r,rfl,i⟩
 ·have:a.kn=0:=by omega
  rw[this];omega
 ·have p:(e.length+r.length) * Tryz.prog.bytesOf 3 <= reachBytes:=by
   refine PQ (VR.1 h _ (nR k l _ ?_));simp only[DataW.weights,lY,BI,BO];refine Or.inr (Or.inl (Qo m _ ?_));rw[DataW.weights,Tryz.underlying61];refine nR (j:=6) (t:=43) rfl rfl _ ?_;rw[DataW.weights,lZ];exact AZ ..
  rw[DM1,i,o]at p;omega
def ZZ0 {H:Type} {W:World} {c:List TypeId} {d:List (DataW H)} (h:(DataW.weightsEach Tryz.prog c d).all (·<= reachBytes)=true) {j:Nat} {b e:List (DataW H)} (f:c[j]? = some 52) (g:d[j]? = some (.slice b e))
 {y:DataW H} (k:y∈b) {a:Us} (l:QM W a y):a.s.size<=140737488351232/\a.t.size<=140737488351232:=by
 obtain⟨m,n,o,p,v,w,kd,q,rfl,⟨rfl,rfl⟩,x⟩:=l.data;have z:reachBytes=140737488351232:=rfl
 have key:∀(i:Nat) (s:ByteArray),[3,3,3,3,9,9,43,44][i]? = some 9 -> ([m,n,o,p,.lit (.string a.s.data.toList),.lit (.string a.t.data.toList),kd,q]:List (DataW H))[i]? = some (.lit (.string s.data.toList))->s.size<=reachBytes:=λi s r u=>by
  refine PQ (VR.1 h _ (nR f g _ ?_));simp only[DataW.weights,lY,BI,BO];refine Or.inr (Or.inl (Qo k _ ?_));rw[DataW.weights,Tryz.underlying61];refine nR (j:=i) (t:=9) r u _ ?_;simp[DataW.weights,VD]
 exact⟨key 4 a.s rfl rfl,key 5 a.t rfl rfl⟩
def OV1{H:Type}{W:World}{a:Us}{y:DataW H}(h:QM W a y)(b:a.kn*8<=140737488355328):a.Ok W:=⟨h.keep,h.lt,b,h.s,NS1 h.n⟩
def zN{n:Int}(h:(Lit.int .i64 n).wf=true) : -9223372036854775808<=n/\n<=9223372036854775807:=by
 simpa[Lit.wf,IntKind.min,IntKind.max,IntKind.bits,IntKind.signed]using h
def PW1{H:Type}{W:World}{a:Us}{y:DataW H}(h:QM W a y):(-9223372036854775808<=a.n/\a.n<=9223372036854775807)/\(-9223372036854775808<=a.f/\a.f<=9223372036854775807):=⟨zN h.n,zN h.f⟩
end Go.Proofs.YtjihboddejaelaaGreat
namespace Go.Proofs.YtjihboddejaelaaGreat
open Go.RowKit Go.BigFrame Go.Maps
structure Fit (D:Dk) (k:Nat):Prop where
 ok:D.ok
 count:D.count+k<=4000000000000000000
 waits:D.waits.length+k<=1000000000
structure Ro (w:World) (g bl bs bn bf bp:Nat) (slot n f p:Nat):Prop where
 l:Has w bl 97 #[.pointer (some ⟨g,0,none⟩)]
 s:Has w bs 3 #[.int .i64 slot]
 n:Has w bn 3 #[.int .i64 n]
 f:Has w bf 3 #[.int .i64 f]
 p:Has w bp 3 #[.int .i64 p]
def Ro.below{w w':World}{g b bs c d e slot n f p:Nat}(h:Ro w g b bs c d e slot n f p)(a:Below w.heap.size w w'):Ro w' g b bs c d e slot n f p :=
 ⟨h.l.Ai a,h.s.Ai a,h.n.Ai a,h.f.Ai a,h.p.Ai a⟩
def Ro.cells {w:World} {g a bs b c d slot n f p:Nat} (h:Ro w g a bs b c d slot n f p) :
 w.cell? ⟨a,0,none⟩=some (.pointer (some ⟨g,0,none⟩))/\w.cell? ⟨bs,0,none⟩=some (.int .i64 slot)/\w.cell? ⟨b,0,none⟩=some (.int .i64 n)/\w.cell? ⟨c,0,none⟩=some (.int .i64 f)/\w.cell? ⟨d,0,none⟩=some (.int .i64 p) :=
 ⟨h.l.cell 0,h.s.cell 0,h.n.cell 0,h.f.cell 0,h.p.cell 0⟩
def kE(a bs c d e:Nat)(b:List (Option Nat)):Prop:=some a∉b/\some bs∉b/\some c∉b/\some d∉b/\some e∉b
def Ro.turn{w w':World}{b b':List (Option Nat)}{g d bs e i j slot n f p:Nat}(h:Ro w g d bs e i j slot n f p)(a:Turn b b' w w')(c:kE d bs e i j b):Ro w' g d bs e i j slot n f p :=
 ⟨h.l.turn a c.1,h.s.turn a c.2.1,h.n.turn a c.2.2.1,h.f.turn a c.2.2.2.1,h.p.turn a c.2.2.2.2⟩
def LR.cell0{w:World}{b:List (Option Nat)}{gd g m1 m2:Nat}{R:Rw}(h:LR w b gd g m1 m2 R):w.cell? ⟨g,0,none⟩=some (.pointer (some ⟨gd,0,none⟩)):=h.has.cell 0
def DE1 (b:List (Option Nat)) (gd g m1 m2:Nat) (R:Rw) (k bs l m o slot n f p:Nat) (w:World) (h:LR w b gd g m1 m2 R) (u:Ro w g k bs l m o slot n f p) (P:kE k bs l m o b) (q:Fit R.D 1) (hs:slot<2) (Z:n<=4611686018427387904) (hf:f<=4611686018427387904) (hp:p<=4611686018427387904) :
 Calls Tryz.prog 190 #[.pointer (some ⟨k,0,none⟩),.pointer (some ⟨bs,0,none⟩),.pointer (some ⟨l,0,none⟩),.pointer (some ⟨m,0,none⟩),.pointer (some ⟨o,0,none⟩)] w
  (Tu w b gd (R.D.write 1 (16+24*slot:Nat) (bsOf (slotL n f p))) (.int .i64 (R.D.Ji 1 (16+24*slot:Nat) (bsOf (slotL n f p))))):=by
 have v:=Ac (Xl n f p Z hf hp);have j:=Ac (λQ w1 (h1:DP w1 Q gd R.D)=>Xy gd R.D Q 1 (16+24*slot:Nat) (bsOf (slotL n f p)) w1 h1 q.ok (by have:=q.count;omega) (by have:=q.waits;omega) (by rw[Df,Eo];omega));obtain⟨S,T⟩:∃ S,bsOf (slotL n f p)=S:=⟨_,rfl⟩;rw[T]at v j ⊢;obtain⟨E,U⟩:∃ x,R.D.Ji 1 (16+24*slot:Nat) S=x:=⟨_,rfl⟩;obtain⟨D',V⟩:∃ x,R.D.write 1 (16+24*slot:Nat) S=x:=⟨_,rfl⟩;rw[U,V]at j ⊢;have W:=Ac (h.below (AU _ _).drew);have r:=Ac (u.below (AU _ _).drew);have s:=Ac ((AU w.heap.size w).drew);obtain⟨x0,X,x2,x3,x4⟩:=u.cells;have x5:=h.cell0;have Y:=Ac P;clear T U V h u q P
 obtain rfl | rfl:slot=0\/slot=1:=by omega
 ·rw [show ((0:Nat):Int)=0 from rfl] at X;rw[show(((16+24*0:Nat)):Int)=IntKind.i64.wrap (16+IntKind.i64.wrap 0)by decide]at j;go_enter Tryz.func190,Tryz.ntmps190
  go_wp2_with fail
  go_region_held3 (λw'=>w'.cell? ⟨k,0,none⟩=some (.pointer (some ⟨g,0,none⟩))/\w'.cell? ⟨bs,0,none⟩=some (.int .i64 0)/\w'.cell? ⟨l,0,none⟩=some (.int .i64 n)/\w'.cell? ⟨m,0,none⟩=some (.int .i64 f)/\w'.cell? ⟨o,0,none⟩=some (.int .i64 p)/\w'.cell? ⟨g,0,none⟩=some (.pointer (some ⟨gd,0,none⟩))) (first | exact ⟨y,z,A,B,C,F⟩ | exact ⟨G,H,I,J,K,L⟩ | go_keep)
   (first |(go_at_call 187;(with_reducible refine(v.out _).mono ?_);rintro e w1 ⟨rfl,a⟩;have i:=Ac (W.below a);have t:=Ac (Ap s a s.size);obtain⟨G,H,I,J,K⟩:=(r.below a).cells;have L:=i.cell0) |(go_at_call 172;(with_reducible refine(j.out _ _ i.out.disk).mono ?_);rintro e w2 ⟨rfl,M,d,c⟩;have N:=Ac d;have O:=Ac c;obtain⟨y,z,A,B,C⟩:=((r.below a).turn c Y).cells;have F:=(i.PN d c).1.cell0;clear d c a))
  go_wp2_with fail
  go_ret;exact⟨rfl,M,N,(Turn.below b t).trans O⟩
 ·rw [show ((1:Nat):Int)=1 from rfl] at X;rw[show(((16+24*1:Nat)):Int)=IntKind.i64.wrap (16+IntKind.i64.wrap 24)by decide]at j;go_enter Tryz.func190,Tryz.ntmps190
  go_wp2_with fail
  go_region_held3 (λw'=>w'.cell? ⟨k,0,none⟩=some (.pointer (some ⟨g,0,none⟩))/\w'.cell? ⟨bs,0,none⟩=some (.int .i64 1)/\w'.cell? ⟨l,0,none⟩=some (.int .i64 n)/\w'.cell? ⟨m,0,none⟩=some (.int .i64 f)/\w'.cell? ⟨o,0,none⟩=some (.int .i64 p)/\w'.cell? ⟨g,0,none⟩=some (.pointer (some ⟨gd,0,none⟩))) (first | exact ⟨y,z,A,B,C,F⟩ | exact ⟨G,H,I,J,K,L⟩ | go_keep)
   (first |(go_at_call 187;(with_reducible refine(v.out _).mono ?_);rintro e w1 ⟨rfl,a⟩;have i:=Ac (W.below a);have t:=Ac (Ap s a s.size);obtain⟨G,H,I,J,K⟩:=(r.below a).cells;have L:=i.cell0) |(go_at_call 172;(with_reducible refine(j.out _ _ i.out.disk).mono ?_);rintro e w2 ⟨rfl,M,d,c⟩;have N:=Ac d;have O:=Ac c;obtain⟨y,z,A,B,C⟩:=((r.below a).turn c Y).cells;have F:=(i.PN d c).1.cell0;clear d c a))
  go_wp2_with fail
  go_ret;exact⟨rfl,M,N,(Turn.below b t).trans O⟩
def FT1 (b:List (Option Nat)) (gd g m1 m2:Nat) (R:Rw) (d:Nat) (w:World) (h:LR w b gd g m1 m2 R) (f:Has w d 97 #[.pointer (some ⟨g,0,none⟩)]) (a:Fit R.D 1) :
 Calls Tryz.prog 191 #[.pointer (some ⟨d,0,none⟩)] w (Tu w b gd (R.D.sync 1) (.int .i64 (R.D.Pq 1))):=by
 have i:=Ac (λj w1 (m:DP w1 j gd R.D)=>Wi gd R.D j 1 w1 m a.ok (by have:=a.count;omega) (by have:=a.waits;omega));obtain⟨E,k⟩:∃ x,R.D.Pq 1=x:=⟨_,rfl⟩;obtain⟨D',l⟩:∃ x,R.D.sync 1=x:=⟨_,rfl⟩;rw[k,l]at i ⊢;have n:=Ac h;have p:=f.cell 0;have q:=h.cell0;clear k l h f a;go_enter Tryz.func191,Tryz.ntmps191
 go_wp2_with (go_at_call 119;(with_reducible refine(i.out _ _ n.out.disk).mono ?_);rintro e r ⟨rfl,c⟩;have o:=Ac c;clear c)
 go_ret;exact⟨rfl,o⟩
def TI0 (b:List (Option Nat)) (gd g m1 m2:Nat) (R:Rw) (d:Nat) (w:World) (h:LR w b gd g m1 m2 R) (f:Has w d 97 #[.pointer (some ⟨g,0,none⟩)]) (a:Fit R.D 1) :
 Calls Tryz.prog 118 #[.pointer (some ⟨d,0,none⟩)] w (Tu w b gd (R.D.sync 1) (.int .i64 (R.D.Pq 1))):=by
 have i:=Ac (λj w1 (m:DP w1 j gd R.D)=>Wi gd R.D j 1 w1 m a.ok (by have:=a.count;omega) (by have:=a.waits;omega));obtain⟨E,k⟩:∃ x,R.D.Pq 1=x:=⟨_,rfl⟩;obtain⟨D',l⟩:∃ x,R.D.sync 1=x:=⟨_,rfl⟩;rw[k,l]at i ⊢;have n:=Ac h;have p:=f.cell 0;have q:=h.cell0;clear k l h f a;go_enter Tryz.func118,Tryz.ntmps118
 go_wp2_with (go_at_call 119;(with_reducible refine(i.out _ _ n.out.disk).mono ?_);rintro e r ⟨rfl,c⟩;have o:=Ac c;clear c)
 go_ret;exact⟨rfl,o⟩
def IL0 (b:List (Option Nat)) (gd g m1 m2:Nat) (R:Rw) (d:Nat) (w:World) (h:LR w b gd g m1 m2 R) (f:Has w d 97 #[.pointer (some ⟨g,0,none⟩)]) (a:Fit R.D 1) :
 Calls Tryz.prog 176 #[.pointer (some ⟨d,0,none⟩)] w (Tu w b gd (R.D.sync 0) (.int .i64 (R.D.Pq 0))):=by
 have i:=Ac (λj w1 (m:DP w1 j gd R.D)=>Wi gd R.D j 0 w1 m a.ok (by have:=a.count;omega) (by have:=a.waits;omega));obtain⟨E,k⟩:∃ x,R.D.Pq 0=x:=⟨_,rfl⟩;obtain⟨D',l⟩:∃ x,R.D.sync 0=x:=⟨_,rfl⟩;rw[k,l]at i ⊢;have n:=Ac h;have p:=f.cell 0;have q:=h.cell0;clear k l h f a;go_enter Tryz.func176,Tryz.ntmps176
 go_wp2_with (go_at_call 119;(with_reducible refine(i.out _ _ n.out.disk).mono ?_);rintro e r ⟨rfl,c⟩;have o:=Ac c;clear c)
 go_ret;exact⟨rfl,o⟩
def ML(u:World)(xs:List (Nat×TypeId×Array Value)):Prop:=∀ x∈xs,Has u x.1 x.2.1 x.2.2
def Off(xs:List (Nat×TypeId×Array Value))(b:List (Option Nat)):Prop:=∀ x∈xs,some x.1∉b
def ML.turn{u c:World}{xs:List (Nat×TypeId×Array Value)}{b b':List (Option Nat)}(h:ML u xs)(d:Turn b b' u c)(e:Off xs b):ML c xs/\Off xs b' :=
 ⟨λx a=>(h x a).turn d (e x a),λx a g=>by
   rcases d.new x.1 g with f | f
   ·exact e x a f
   ·have:=(h x a).lt;omega⟩
def upTo (a:Nat->Int):Nat->Nat×Int
 | 0=>(0,0)
 | n+1=>if(upTo a n).2≠0 then upTo a n else(n+1,a n)
def Xj{a:Nat->Int}{i n:Nat}(c:(upTo a i).2≠0)(h:i<=n):upTo a n=upTo a i:=by
 induction n with
 | zero=>rw[show i=0 by omega]
 | succ n d =>
   rcases JR n i with b | b
   ·rw[show i=n+1 by omega]
   ·have e:=d b;rw[upTo,AC (by rw[e];exact c),e]
def Gv{a:Nat->Int}{i:Nat}(b:upTo a i=(i,0)):upTo a (i+1)=(i+1,a i):=by
 rw[upTo,AO (by rw[b];simp)]
def Held(w0:World)(a:List (Option Nat))(gd g m1 m2:Nat)(xs:List (Nat×TypeId×Array Value))(R:Rw)(u:World):Prop :=
 ∃ b',LR u b' gd g m1 m2 R/\ML u xs/\Off xs (b'++lb g m1 m2)/\Turn (a++lb g m1 m2) (b'++lb g m1 m2) w0 u
def Ei(u:World)(b:List (Option Nat))(gd g m1 m2:Nat)(R':Rw)(E:Int)(e:Ending)(w':World):Prop :=
 e = .returned (.int .i64 E)/\∃ b',LR w' b' gd g m1 m2 R'/\Turn (b++lb g m1 m2) (b'++lb g m1 m2) u w'
def Ei.V9{u:World}{b:List (Option Nat)}{gd g m1 m2:Nat}{R:Rw}{D':Dk}{E:Int}{e:Ending}{w':World}(h:LR u b gd g m1 m2 R)(a:Tu u b gd D' (.int .i64 E) e w'):Ei u b gd g m1 m2 { R with D:=D' } E e w':=by
 obtain⟨c,b',d,f⟩:=a;obtain⟨i,j⟩:=h.PN d f;exact⟨c,b',i,j⟩
def jW (fs:List (FuncId×Array Value)) (o n:Nat) (w0:World) (d:List (Option Nat)) (gd g m1 m2:Nat) (xs:List (Nat×TypeId×Array Value)) (b:Nat->Rw) (a:Nat->Int) (t:TypeId) (w:World)
 (H:fs.length=n) (B:n<=4) (C:(o,t,(fs.map (λx=>Value.func (.func x.1) #[] x.2)).toArray)∈xs) (I:Held w0 d gd g m1 m2 xs (b 0) w)
 (A:∀(i:Nat) k cs,fs[i]? = some (k,cs)->∀ u,(callFunc k cs).run Tryz.prog u = .ok (.enter k cs) u)
 (z:∀(i:Nat) k cs,fs[i]? = some (k,cs)->∀ u b',LR u b' gd g m1 m2 (b i)->ML u xs->Off xs (b'++lb g m1 m2)->upTo a i=(i,0)->Calls Tryz.prog k cs u (Ei u b' gd g m1 m2 (b (i+1)) (a i))) :
 Calls Tryz.prog 116 #[.slice (some ⟨o,0,none⟩) n n] w λe w'=>e = .returned (.int .i64 (upTo a n).2)/\Held w0 d gd g m1 m2 xs (b (upTo a n).1) w':=by
 refine(rP fs o n w (λi u=>i<=n/\upTo a i=(i,0)/\Held w0 d gd g m1 m2 xs (b i) u) (λr u=>r=(upTo a n).2/\Held w0 d gd g m1 m2 xs (b (upTo a n).1) u) H B ?_ A ?_ ?_ ⟨BR _,rfl,I⟩).mono ?_
 ·rintro i u ⟨_,_,b',_,f,_,_⟩ j k cs J;have:=(f _ C).cell j;simp only at this;rw[this];simp[J]
 ·rintro i k cs s u ⟨M,h,b',K,f,v,L⟩
  have p:i<n:=by
   have:=(C9.1 s).1;omega
  refine(z i k cs s u b' K f v h).mono ?_;rintro e w' ⟨rfl,D,E,q⟩;obtain⟨F,G⟩:=f.turn q v;have c:Held w0 d gd g m1 m2 xs (b (i+1)) w':=⟨D,E,F,G,L.trans q⟩;have m:=Gv h;refine⟨a i,rfl, ?_⟩;by_cases l:a i=0
  ·exact .inl ⟨l,p,by rw[m,l],c⟩
  ·have y:upTo a n=(i+1,a i):=by
    rw[<- m];exact Xj (by rw[m];exact l) p
   exact .inr ⟨l,by rw[y],by rw[y];exact c⟩
 ·rintro u ⟨_,h,c⟩;rw[h];exact⟨rfl,c⟩
 ·rintro e w' ⟨r,rfl,rfl,c⟩;exact⟨rfl,c⟩
def Rw.Cf(R:Rw)(f p:Nat):Dk:=R.D.write 1 (16+24*(1-R.slot):Nat) (bsOf (slotL (R.number % 3+1) f p))
def Rw.KG(R:Rw)(f p:Nat):Int:=R.D.Ji 1 (16+24*(1-R.slot):Nat) (bsOf (slotL (R.number % 3+1) f p))
def Rw.tell(R:Rw)(f p:Nat):Rw :=
 if R.KG f p≠0 then{ R with D:=R.Cf f p }
 else if(R.Cf f p).Pq 1≠0 then{ R with D:=(R.Cf f p).sync 1 }
 else{ R with D:=(R.Cf f p).sync 1,slot:=1-R.slot,number:=R.number % 3+1 }
def Rw.Eb(R:Rw)(f p:Nat):Int:=if R.KG f p≠0 then R.KG f p else(R.Cf f p).Pq 1
def RJ (R:Rw) (f p:Nat):Nat->Rw
 | 0=>R
 | 1=>{ R with D:=R.Cf f p }
 | _=>{ R with D:=(R.Cf f p).sync 1 }
def Yr (R:Rw) (f p:Nat):Nat->Int
 | 0=>R.KG f p
 | _=>(R.Cf f p).Pq 1
def MR1(R:Rw)(f p:Nat):(upTo (Yr R f p) 2).2=R.Eb f p:=by
 unfold Rw.Eb;by_cases h:R.KG f p=0
 ·rw [AO (by simpa using h)]
  have e:upTo (Yr R f p) 1=(1,0):=by rw[Gv rfl];show(0+1,R.KG f p)=_;rw[h]
  rw[Gv e];rfl
 ·rw [AC h];have e:upTo (Yr R f p) 1=(1,R.KG f p):=Gv rfl;rw[Xj (i:=1) (by rw[e];exact h) (by omega),e]
def IY1(R:Rw)(f p:Nat)(a:R.Eb f p≠0):R.tell f p=RJ R f p (upTo (Yr R f p) 2).1:=by
 unfold Rw.Eb at a;unfold Rw.tell;by_cases h:R.KG f p=0
 ·rw [AO (by simpa using h)] at a ⊢
  have e:upTo (Yr R f p) 1=(1,0):=by rw[Gv rfl];show(0+1,R.KG f p)=_;rw[h]
  rw[Gv e,AC a];rfl
 ·rw [AC h];have e:upTo (Yr R f p) 1=(1,R.KG f p):=Gv rfl;rw[Xj (i:=1) (by rw[e];exact h) (by omega),e];rfl
def GI1(R:Rw)(f p:Nat)(a:R.Eb f p=0):R.tell f p={ RJ R f p 2 with slot:=1-R.slot,number:=R.number % 3+1 }/\(upTo (Yr R f p) 2).1=2:=by
 unfold Rw.Eb at a;unfold Rw.tell;by_cases h:R.KG f p=0
 ·rw [AO (by simpa using h)] at a ⊢
  have e:upTo (Yr R f p) 1=(1,0):=by rw[Gv rfl];show(0+1,R.KG f p)=_;rw[h]
  rw[Gv e,AO (by simpa using a)];exact⟨rfl,rfl⟩
 ·rw[AC h]at a;exact absurd a h
def TO0(cs:Array Value)(u:World):(callFunc 190 cs).run Tryz.prog u = .ok (.enter 190 cs) u:=by kernel_rfl
def UB0(cs:Array Value)(u:World):(callFunc 191 cs).run Tryz.prog u = .ok (.enter 191 cs) u:=by kernel_rfl
def YS(N bs a:Nat):List (FuncId×Array Value):=[(190,#[.pointer (some ⟨N,0,none⟩),.pointer (some ⟨bs,0,none⟩),.pointer (some ⟨a,0,none⟩),.pointer (some ⟨N+1,0,none⟩),.pointer (some ⟨N+1+1,0,none⟩)]),(191,#[.pointer (some ⟨N,0,none⟩)])]
def Oo(b N bs a g slot n f p:Nat):List (Nat×TypeId×Array Value) :=
 [(b,50,((YS N bs a).map (λx=>Value.func (.func x.1) #[] x.2)).toArray),(N,97,#[.pointer (some ⟨g,0,none⟩)]),(bs,3,#[.int .i64 slot]),(a,3,#[.int .i64 n]),(N+1,3,#[.int .i64 f]),(N+1+1,3,#[.int .i64 p])]
def kP{u:World}{b N bs a g slot n f p:Nat}(h:ML u (Oo b N bs a g slot n f p)):Ro u g N bs a (N+1) (N+1+1) slot n f p :=
 ⟨h (N,_,_) (by simp[Oo]),h (bs,_,_) (by simp[Oo]),h (a,_,_) (by simp[Oo]),h (N+1,_,_) (by simp[Oo]),h (N+1+1,_,_) (by simp[Oo])⟩
def DH1{e N bs d g slot n f p:Nat}{b c:List (Option Nat)}(h:Off (Oo e N bs d g slot n f p) (b++c)):kE N bs d (N+1) (N+1+1) b :=
 ⟨λa=>h (N,97,#[.pointer (some ⟨g,0,none⟩)]) (by simp[Oo]) (BL _ a),λa=>h (bs,3,#[.int .i64 slot]) (by simp[Oo]) (BL _ a),λa=>h (d,3,#[.int .i64 n]) (by simp[Oo]) (BL _ a),λa=>h (N+1,3,#[.int .i64 f]) (by simp[Oo]) (BL _ a),λa=>h (N+1+1,3,#[.int .i64 p]) (by simp[Oo]) (BL _ a)⟩
def Fit.less{D:Dk}{k m:Nat}(h:Fit D k)(a:m<=k):Fit D m:=⟨h.ok,by have:=h.count;omega,by have:=h.waits;omega⟩
def yF(D:Dk):D.turn.count<=D.count+1:=by unfold Dk.turn;split <;> simp
def xX{D:Dk}{k:Nat}(h:Fit D (k+1)){c:Ch}(a:c.fits):Fit (D.change c) k:=by
 refine⟨Dk.aV h.ok a, ?_, ?_⟩
 ·have:=h.count;have:=yF D
  unfold Dk.change;split
  ·omega
  ·show D.turn.count+k<=_;omega
 ·have:=h.waits
  unfold Dk.change;split
  ·have:D.turn.waits=D.waits:=by unfold Dk.turn;split <;> rfl
   rw[this];omega
  ·show(D.waits++[c]).length+k<=_;rw[A8];simp;omega
def Fit.write{D:Dk}{k:Nat}(h:Fit D (k+1))(f a:Int)(s:ByteArray):Fit (D.write f a s) k:=by
 unfold Dk.write
 split
 ·rename_i b;obtain⟨c,d,e,g,i,j⟩:=b;exact xX h ⟨by show f.toNat<2;omega,by show a.toNat<=_;omega,by show a.toNat+s.size<=_;omega,λh=>by cases h⟩
 ·exact h.less (by omega)
def NM0 (b:List (Option Nat)) (gd g m1 m2:Nat) (R:Rw) (f p d bs j:Nat) (w wc:World) (h:LR w b gd g m1 m2 R) (o:Fit R.D 2) (E:R.slot<2) (z:R.number<4) (r:f<=4611686018427387904) (m:p<=4611686018427387904)
 (q:Below w.heap.size w wc) (s:ML wc (Oo d w.heap.size bs j g (1-R.slot) (R.number % 3+1) f p)) (A:w.heap.size<=bs) (B:w.heap.size<=j) (C:w.heap.size<=d) :
 Calls Tryz.prog 116 #[.slice (some ⟨d,0,none⟩) 2 2] wc λe w'=>e = .returned (.int .i64 (R.Eb f p))/\Held w b gd g m1 m2 (Oo d w.heap.size bs j g (1-R.slot) (R.number % 3+1) f p) (RJ R f p (upTo (Yr R f p) 2).1) w':=by
 rw[<- MR1];refine jW (YS w.heap.size bs j) d 2 w b gd g m1 m2 _ (RJ R f p) (Yr R f p) 50 wc rfl (by omega) (by simp[Oo]) ⟨b,h.below q,s, ?_,Turn.below _ q⟩ ?_ ?_
 ·intro x c t;have v:=h.lt t;simp only[Oo,BI,PY,OC]at c
  rcases c with rfl | rfl | rfl | rfl | rfl | rfl <;> simp only at v <;> omega
 ·intro i k cs a u
  match i,a with
  | 0,a=>cases a;exact TO0 _ _
  | 1,a=>cases a;exact UB0 _ _
 ·intro i k cs a u b' n c y F
  match i,a with
  | 0,a =>
    cases a
    exact(DE1 b' gd g m1 m2 R _ bs j _ _ (1-R.slot) (R.number % 3+1) f p u n (kP c) (DH1 y) (o.less (by omega)) (by omega) (by omega) r m).mono λe w' m=>Ei.V9 n m
  | 1,a =>
    cases a
    exact(FT1 b' gd g m1 m2 _ _ u n (kP c).l ((show Fit (R.D.write 1 (16+24*(1-R.slot):Nat) (bsOf (slotL (R.number % 3+1) f p))) 1 from o.write _ _ _))).mono λe w' m=>Ei.V9 (R:=RJ R f p 1) n m
def rM (b:List (Option Nat)) (gd g m1 m2:Nat) (R:Rw) (f p:Nat) (w:World) (h:LR w b gd g m1 m2 R) (J:Fit R.D 2) (hs:R.slot<2) (aa:R.number<4) (hf:f<=4611686018427387904) (hp:p<=4611686018427387904) :
 Calls Tryz.prog 121 #[.pointer (some ⟨g,0,none⟩),.int .i64 f,.int .i64 p] w (Ei w b gd g m1 m2 (R.tell f p) (R.Eb f p)):=by
 obtain⟨E,A⟩:∃ E,R.Eb f p=E:=⟨_,rfl⟩;rw[A];have U:=Ac A;clear A;have V:=Ac h;have HF:=Ac J
 have X:=Ac (show Has (((w.alloc (.cells #[.pointer (some ⟨g,0,none⟩)] 97)).alloc (.cells #[.int .i64 f] 3)).alloc (.cells #[.int .i64 p] 3)) w.heap.size 97 #[.pointer (some ⟨g,0,none⟩)] /\
  Has (((w.alloc (.cells #[.pointer (some ⟨g,0,none⟩)] 97)).alloc (.cells #[.int .i64 f] 3)).alloc (.cells #[.int .i64 p] 3)) (w.heap.size+1) 3 #[.int .i64 f] /\
  Has (((w.alloc (.cells #[.pointer (some ⟨g,0,none⟩)] 97)).alloc (.cells #[.int .i64 f] 3)).alloc (.cells #[.int .i64 p] 3)) (w.heap.size+2) 3 #[.int .i64 p] /\
  Below w.heap.size w (((w.alloc (.cells #[.pointer (some ⟨g,0,none⟩)] 97)).alloc (.cells #[.int .i64 f] 3)).alloc (.cells #[.int .i64 p] 3)) /\
  (((w.alloc (.cells #[.pointer (some ⟨g,0,none⟩)] 97)).alloc (.cells #[.int .i64 f] 3)).alloc (.cells #[.int .i64 p] 3)).heap.size=w.heap.size+3 by
  have a1:=Has.new w 97 #[.pointer (some ⟨g,0,none⟩)];have Y:=Has.new (w.alloc (.cells #[.pointer (some ⟨g,0,none⟩)] 97)) 3 #[.int .i64 f];have Z:=Has.new ((w.alloc (.cells #[.pointer (some ⟨g,0,none⟩)] 97)).alloc (.cells #[.int .i64 f] 3)) 3 #[.int .i64 p];rw[ED]at Y;rw[ED,ED]at Z
  exact⟨(a1.alloc _).alloc _,Y.alloc _,Z,(((AU _ _).alloc (AY _) _).alloc (by simp) _).alloc (by simp;omega) _,by simp⟩)
 clear h J;go_enter Tryz.func121,Tryz.ntmps121
 go_upto_region 1 with fail
 generalize ((w.alloc (.cells #[.pointer (some ⟨g,0,none⟩)] 97)).alloc (.cells #[.int .i64 f] 3)).alloc (.cells #[.int .i64 p] 3)=W at *;obtain⟨a,K,L,i,M⟩:=X.out;have t:=Ac a;have u:=Ac K;have v:=Ac L;have N:=Ac i;have m:=Ac M;have o:=Ac (V.below i);have c7:W.cell? ⟨g,7,none⟩=some (.int .i64 R.slot):=o.has.cell 7;have c8:W.cell? ⟨g,8,none⟩=some (.int .i64 R.number):=o.has.cell 8;have gz:=o.has.lt;have cl:W.cell? ⟨w.heap.size,0,none⟩=some (.pointer (some ⟨g,0,none⟩)):=a.cell 0;have lz:=a.lt;clear a K L i X M
 go_cut [7,8] (λs7 s8 wx=>∃ bs j,s7 = .pointer (some ⟨bs,0,none⟩)/\s8 = .pointer (some ⟨j,0,none⟩)/\Ro wx g w.heap.size bs j (w.heap.size+1) (w.heap.size+2) (1-R.slot) (R.number % 3+1) f p/\Below W.heap.size W wx/\W.heap.size<=bs/\W.heap.size<=j)
 case first =>
  have r:=Ac (show((1-R.slot:Nat):Int)=1-(R.slot:Int)/\((R.number % 3+1:Nat):Int)=(R.number:Int) % 3+1 from⟨by omega,by omega⟩);have A1:=Ac (λx y=>((Has.new W 3 #[x]).alloc (.cells #[y] 3)).drew)
  have A2:=Ac (show ∀ x y,Has ((W.alloc (.cells #[x] 3)).alloc (.cells #[y] 3)).drew (W.heap.size+1) 3 #[y]from λx y=>by
   have:=Has.new (W.alloc (.cells #[x] 3)) 3 #[y];rw[ED]at this
   exact this.drew)
  have AB:=Ac (λx y=>(((AU W.heap.size W).alloc (AY _) (.cells #[x] 3)).alloc (by simp) (.cells #[y] 3)).drew)
  go_region
  ·go_wp2_with fail
   go_meet;have c:=AB (.int .i64 (1-R.slot)) (.int .i64 (R.number % 3+1));refine⟨_,_,rfl,rfl,⟨t.Ai c, ?_, ?_,u.Ai c,v.Ai c⟩,c,AY _,EZ _⟩
   ·rw[r.1];exact A1 _ _
   ·rw[r.2];exact A2 _ _
  ·go_wp2_with fail
   go_meet;have c:=AB (.int .i64 (R.number % 3+1)) (.int .i64 (1-R.slot));refine⟨_,_,rfl,rfl,⟨t.Ai c, ?_, ?_,u.Ai c,v.Ai c⟩,c,EZ _,AY _⟩
   ·rw[r.1];exact A2 _ _
   ·rw[r.2];exact A1 _ _
 case rest =>
  obtain⟨bs,j,rfl,rfl,O,c,ab,ac⟩:=hcut;have P:=Ac O;have Q:=Ac c;clear O c c7 c8 gz cl lz;have i:=N.trans (Below.mono Q (by have:=m.out;omega))
  have S:=(i.alloc i.size (.cells ((YS w.heap.size bs j).map (λx=>Value.func (.func x.1) #[] x.2)).toArray 50))
  have B:=Ac (NM0 b gd g m1 m2 R f p wc.heap.size bs j w (wc.alloc (.cells ((YS w.heap.size bs j).map (λx=>Value.func (.func x.1) #[] x.2)).toArray 50)) V HF hs aa hf hp S (by
   have d:=P.out;intro x T;simp only[Oo,BI,PY,OC]at T
   rcases T with rfl | rfl | rfl | rfl | rfl | rfl
   ·exact Has.new _ _ _
   ·exact d.l.alloc _
   ·exact d.s.alloc _
   ·exact d.n.alloc _
   ·exact d.f.alloc _
   ·exact d.p.alloc _) (by have:=m.out;omega) (by have:=m.out;omega) i.size)
  have C:=Ac (IY1 R f p);have F:=Ac (GI1 R f p);rw[U.out]at B C F;clear i S P Q N t u v o m ab ac
  go_wp2_with ((go_at_call 116;refine B.mono ?_);rintro e w2 ⟨rfl,hH⟩;have G:=Ac hH;clear hH)
  ·rename_i q
   have k:E=0:=by simpa using q
   obtain⟨tg,up⟩:=F k;have hh:=G.out;rw[up]at hh;obtain⟨b',a,H,ho,d⟩:=hh;have z:=Ac a;have ad:=Ac d;have ae:=Ac tg;have af:=Ac k;obtain⟨x0,x1,x2,_,_⟩:=(kP H).cells;have y7:w2.cell? ⟨g,7,none⟩=some (.int .i64 R.slot):=a.has.cell 7;have y8:w2.cell? ⟨g,8,none⟩=some (.int .i64 R.number):=a.has.cell 8;have yf:=a.has.frozen;have gz:=a.has.lt;clear F C B G U tg up a H ho d q k
   go_region
   all_goals
    go_wp2_with fail
    go_ret;obtain⟨I,t3⟩:=z.set 7 (.int .i64 ((1-R.slot:Nat):Int)) { RJ R f p 2 with slot:=1-R.slot } rfl rfl z.map1 z.map2;obtain⟨h4,t4⟩:=I.set 8 (.int .i64 ((R.number % 3+1:Nat):Int)) { RJ R f p 2 with slot:=1-R.slot,number:=R.number % 3+1 } rfl rfl I.map1 I.map2;rw[show((R.number % 3+1:Nat):Int)=(R.number:Int) % 3+1 by omega]at h4 t4;rw[ae.out];exact⟨rfl,b',h4.below (AU _ _).drew,((ad.trans t3).trans t4).trans (Turn.below _ (AU _ _).drew)⟩
  ·rename_i q
   have k:E≠0:=by simpa using q
   obtain⟨b',a,H,ho,d⟩:=G;go_ret;exact⟨rfl,b',(C k) ▸ a,d⟩
def KU{x:Int}(a : -9223372036854775808<=x)(b:x<=9223372036854775807):(Lit.int .i64 x).wf=true:=WalkArith.wf_i64 ⟨by omega,by omega⟩
def MP.put {w:World} {b n:Nat} {f:Int->Nat} (h:MP w b n f) (o:n<=1000000) (k:Int) (c:Nat) (g:(Lit.int .i64 k).wf=true) (p:c<=4611686018427387904) :
 ∃ w',(Instr.mapUpdate 104 (.map (some b)) (.int .i64 k) (.int .i64 c)).run Tryz.prog w = .ok () w'/\MP w' b (n+1) (λy=>if y=k then c else f y)/\w.grownBy w' (some b):=by
 obtain⟨D,d,i⟩:=h;obtain⟨w',j,l,m⟩:=d.update Ol PU (by unfold maxLen;omega) (keyOf_int_mk IB g) (plainElem_int IB (KU (x:=(c:Int)) (by omega) (by omega)));refine⟨w',j,⟨_,l,λx=>?_⟩,m⟩;by_cases a:x=k
 ·subst a;show _=DataW.lit (Lit.int .i64 ((if x=x then c else f x:Nat):Int));rw[AC rfl];exact atKey_put_same (k:=.int .i64 x) d.isMap trivial _ _
 ·show _=DataW.lit (Lit.int .i64 ((if x=k then c else f x:Nat):Int));rw[AO a,atKey_put_other (by intro e;cases e;exact a rfl)];exact i x
end Go.Proofs.YtjihboddejaelaaGreat
