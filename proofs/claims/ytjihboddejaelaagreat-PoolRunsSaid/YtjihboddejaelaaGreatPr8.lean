/-
  at16, at32 of page; what is read out of a page's bytes.
-/
import Derived.Test.YtjihboddejaelaaGreatPr7
import Derived.Lib.Strings
import Derived.Test.YtjihboddejaelaaGreatPr5
import Derived.Maps.StringElems
import Derived.RegionTactic
import Derived.BigRegion
import Derived.ChangeAlike
import Derived.Outline
set_option linter.unusedVariables false
set_option linter.unusedSimpArgs false
namespace Go.Proofs.YtjihboddejaelaaGreat
open Go.RowKit
open Go.BigFrame
attribute [local go_sem] OpGood goodUpon fillA Act.put
def at16N (l:List UInt8) (o:Nat):Nat:=256*(l.getD o 0).toNat+(l.getD (o+1) 0).toNat
def at32N (l:List UInt8) (o:Nat):Nat:=65536*at16N l o+at16N l (o+2)
theorem at16N_lt (l:List UInt8) (o:Nat):at16N l o<65536:=by
 have h1:=byte_lt (l.getD o 0)
 have h2:=byte_lt (l.getD (o+1) 0)
 unfold at16N;omega
theorem at32N_lt (l:List UInt8) (o:Nat):at32N l o<4294967296:=by
 have h1:=at16N_lt l o
 have h2:=at16N_lt l (o+2)
 unfold at32N;omega
theorem getD_byte (s:ByteArray) (i:Nat) (h:i<s.size):(s.data.toList.getD i 0)=s[i]:=by
 rw [List.getD_eq_getElem?_getD,byte_at s i h];rfl
theorem i64_or_nat (a b:Nat) (ha:a<4611686018427387904) (hb:b<4611686018427387904):bits .or .i64 (a:Int) (b:Int)=((a ||| b:Nat):Int):=by
 have hx:a ||| b<2 ^ 62:=Nat.or_lt_two_pow (by omega) (by omega)
 have h1:(BitVec.ofInt 64 (a:Int)).toNat=a:=by
  rw [BitVec.ofInt_natCast,BitVec.toNat_ofNat];exact Nat.mod_eq_of_lt (by omega)
 have h2:(BitVec.ofInt 64 (b:Int)).toNat=b:=by
  rw [BitVec.ofInt_natCast,BitVec.toNat_ofNat];exact Nat.mod_eq_of_lt (by omega)
 show IntKind.i64.wrap ((BitVec.ofInt 64 (a:Int) ||| BitVec.ofInt 64 (b:Int)).toNat:Int)=_
 rw [BitVec.toNat_or,h1,h2]
 exact IntWalk.i64_in _ ⟨by omega,by omega⟩
theorem or_256 (a b:Nat) (ha:a<256) (hb:b<256):bits .or .i64 ((a:Int)*256) (b:Int)=((256*a+b:Nat):Int):=by
 rw [show ((a:Int)*256)=((256*a:Nat):Int) by omega,i64_or_nat _ _ (by omega) (by omega),nat_join 8 (256*a) b (by omega) (by omega)]
theorem or_65536 (a b:Nat) (ha:a<65536) (hb:b<65536):bits .or .i64 ((a:Int)*65536) (b:Int)=((65536*a+b:Nat):Int):=by
 rw [show ((a:Int)*65536)=((65536*a:Nat):Int) by omega,i64_or_nat _ _ (by omega) (by omega),nat_join 16 (65536*a) b (by omega) (by omega)]
set_option maxHeartbeats 1600000 in
theorem page_at16 (s:ByteArray) (o:Nat) (ho:o+2≤s.size) (hs:s.size≤1048576) (w:World) :
 Calls Tryz.prog 196 #[.string s,.int .i64 o] w fun e w'=>e = .returned (.int .i64 (at16N s.data.toList o:Nat))∧Below w.heap.size w w':=by
 have h1:o<s.size:=by omega
 have h2:o+1<s.size:=by omega
 have i1:(o:Int)<(s.size:Int):=by omega
 have i2:(o:Int)+1<(s.size:Int):=by omega
 have w1:IntKind.i64.wrap ((o:Int)+1)=(o:Int)+1:=IntWalk.i64_in _ ⟨by omega,by omega⟩
 have w2:((o:Int)+1).toNat=o+1:=by omega
 have w3:(0:Int)≤(o:Int)+1:=by omega
 have b1:=byte_lt s[o]
 have b2:=byte_lt s[o+1]
 have E:bits .or .i64 (wrap64 (wrap64 (s[o].toNat:Int)*256)) (wrap64 (s[o+1].toNat:Int))=((at16N s.data.toList o:Nat):Int):=by
  have e1:wrap64 (s[o].toNat:Int)=(s[o].toNat:Int):=by unfold wrap64;omega
  have e2:wrap64 (s[o+1].toNat:Int)=(s[o+1].toNat:Int):=by unfold wrap64;omega
  have e3:wrap64 ((s[o].toNat:Int)*256)=(s[o].toNat:Int)*256:=by unfold wrap64;omega
  rw [e1,e2,e3,or_256 _ _ b1 b2,at16N,getD_byte s o h1,getD_byte s (o+1) h2]
 have HE:=Lib.hid E
 clear E b1 b2
 go_enter Tryz.func196,Tryz.ntmps196
 go_wp2_with fail
 refine wp_region_cls (w) (by kernel_rfl) (by kernel_rfl) (Cls.start _) ?_
 repeat
  first
   | go_big_quiet_skip
   | (go_big_quiet_want;(first | go_big_quiet_op | go_simp);first | go_big_quiet_on | (apply Exists.intro;refine ⟨fun w' hw'=>?_, ?_⟩;(·(first | (with_reducible exact rfl) | (fail) | (obtain ⟨hc,hf⟩:=hw'.facts;go_simp;first | done | (with_reducible exact rfl) | (with_reducible exact ⟨rfl,rfl⟩))));go_big_quiet_on))
 refine wpQuiet_nil ?_
 intro wq hq
 go_wp2_with fail
 go_ret
 exact ⟨ret_int HE.out,hq.bel⟩
set_option maxHeartbeats 1600000 in
theorem page_at32 (s:ByteArray) (o:Nat) (ho:o+4≤s.size) (hs:s.size≤1048576) (w:World) :
 Calls Tryz.prog 195 #[.string s,.int .i64 o] w fun e w'=>e = .returned (.int .i64 (at32N s.data.toList o:Nat))∧Below w.heap.size w w':=by
 have T1:=Lib.hid (fun w1=>page_at16 s o (by omega) hs w1)
 have t2:=(fun w1=>page_at16 s (o+2) (by omega) hs w1)
 rw [show ((o+2:Nat):Int)=(o:Int)+2 by omega] at t2
 have T2:=Lib.hid t2
 clear t2
 have l1:=at16N_lt s.data.toList o
 have l2:=at16N_lt s.data.toList (o+2)
 have E:bits .or .i64 ((at16N s.data.toList o:Int)*65536) (at16N s.data.toList (o+2):Int)=((at32N s.data.toList o:Nat):Int):=by
  rw [or_65536 _ _ l1 l2,at32N]
 obtain ⟨x,hx⟩:∃ x,at16N s.data.toList o=x:=⟨_,rfl⟩
 obtain ⟨y,hy⟩:∃ y,at16N s.data.toList (o+2)=y:=⟨_,rfl⟩
 rw [hx] at E T1 l1
 rw [hy] at E T2 l2
 have HE:=Lib.hid E
 clear E hx hy
 go_enter Tryz.func195,Tryz.ntmps195
 go_wp2_with (first | (go_at_call 196;(with_reducible refine (T1.out _).mono ?_);rintro e w1 ⟨rfl,hb1⟩) | (go_at_call 196;(with_reducible refine (T2.out _).mono ?_);rintro e w2 ⟨rfl,hb2⟩))
 go_ret
 exact ⟨ret_int HE.out,bel_step hb1 hb2 hb1.size⟩
end Go.Proofs.YtjihboddejaelaaGreat
namespace Go.Proofs.YtjihboddejaelaaGreat
open Go.RowKit
def readGo (s:ByteArray):Nat→Option (List ByteArray)
 | 0=>some []
 | i+1=>(readGo s i).bind fun cs =>
   if 1024<at16N s.data.toList (12+2*i)+2∨1024<at16N s.data.toList (12+2*i)+2+at16N s.data.toList (at16N s.data.toList (12+2*i)) then none
   else some (cs++[s.extract (at16N s.data.toList (12+2*i)+2) (at16N s.data.toList (12+2*i)+2+at16N s.data.toList (at16N s.data.toList (12+2*i)))])
abbrev Pg:=Nat×Nat×List ByteArray
def fin (s:ByteArray) (k l:Nat) (cs:List ByteArray):Option Pg:=if sealE k l cs=0∧sealS k l cs=s then some (k,l,cs) else none
def openN (s:ByteArray) (n:Nat):Option Pg:=(readGo s n).bind fun cs=>fin s (s.data.toList.getD 4 0).toNat (at32N s.data.toList 8) cs
def openP (s:ByteArray):Option Pg:=if s.size≠1024∨at32N s.data.toList 0≠crcN (s.data.toList.drop 4)∨1024<12+2*at16N s.data.toList 6 then none else openN s (at16N s.data.toList 6)
def openR (s:ByteArray):Option Pg:=if s.size≠1024 then none else openN s (min (at16N s.data.toList 6) 506)
def Valid (s:ByteArray) (p:Pg):Prop:=1≤p.1∧p.1≤5∧p.2.1≤2147483647∧usedN p.2.2≤1012∧bsOf (sealL p.1 p.2.1 p.2.2)=s
theorem sealE_zero {k l:Nat} {cs:List ByteArray}:sealE k l cs=0↔1≤k∧k≤5∧l≤2147483647∧usedN cs≤1012:=by
 unfold sealE
 split
 ·simp;omega
 ·split
  ·simp;omega
  ·simp;omega
theorem sealS_valid {k l:Nat} {cs:List ByteArray} (h:1≤k∧k≤5∧l≤2147483647∧usedN cs≤1012):sealS k l cs=bsOf (sealL k l cs):=by
 unfold sealS
 rw [if_neg (by omega)]
 simp
theorem fin_some {s:ByteArray} {k l:Nat} {cs:List ByteArray} {p:Pg}:fin s k l cs=some p↔p=(k,l,cs)∧Valid s p:=by
 unfold fin
 constructor
 ·intro h
  split at h
  ·rename_i hc
   injection h with h
   subst h
   have:=sealE_zero.1 hc.1
   exact ⟨rfl,this.1,this.2.1,this.2.2.1,this.2.2.2,by rw [← sealS_valid this];exact hc.2⟩
  ·cases h
 ·rintro ⟨rfl,h1,h2,h3,h4,h5⟩
  rw [if_pos ⟨sealE_zero.2 ⟨h1,h2,h3,h4⟩,by rw [sealS_valid ⟨h1,h2,h3,h4⟩];exact h5⟩]
theorem getD_mid (a b:List UInt8) (x:UInt8):(a++x :: b).getD a.length 0=x:=by
 rw [List.getD_eq_getElem?_getD,List.getElem?_append_right (Nat.le_refl _)];simp
theorem at16_mid {a b:List UInt8} {x o:Nat} (ha:a.length=o) (hx:x<65536):at16N (a++(beK x 2++b)) o=x:=by
 subst ha
 have e1:(a++(beK x 2++b)).getD a.length 0=UInt8.ofNat (x / 256):=by rw [beK_two];exact getD_mid a _ _
 have e2:(a++(beK x 2++b)).getD (a.length+1) 0=UInt8.ofNat x:=by
  rw [beK_two,show a++([UInt8.ofNat (x / 256),UInt8.ofNat x]++b)=(a++[UInt8.ofNat (x / 256)])++UInt8.ofNat x :: b by simp]
  have:=getD_mid (a++[UInt8.ofNat (x / 256)]) b (UInt8.ofNat x)
  rw [List.length_append] at this
  exact this
 rw [at16N,e1,e2,UInt8.toNat_ofNat',UInt8.toNat_ofNat']
 omega
theorem at32_mid {a b:List UInt8} {x o:Nat} (ha:a.length=o) (hx:x<4294967296):at32N (a++(beK x 4++b)) o=x:=by
 have e:a++(beK x 4++b)=a++(beK (x / 65536) 2++(beK x 2++b)):=by rw [beK_four,List.append_assoc]
 have h1:at16N (a++(beK x 4++b)) o=x / 65536:=by rw [e];exact at16_mid ha (by omega)
 have h2:at16N (a++(beK x 4++b)) (o+2)=x % 65536:=by
  rw [e,← List.append_assoc]
  have h3:beK x 2=beK (x % 65536) 2:=by
   rw [beK_two,beK_two]
   congr 1
   ·apply UInt8.toNat_inj.1;rw [UInt8.toNat_ofNat',UInt8.toNat_ofNat'];omega
   ·congr 1;apply UInt8.toNat_inj.1;rw [UInt8.toNat_ofNat',UInt8.toNat_ofNat'];omega
  rw [h3]
  exact at16_mid (by rw [List.length_append,ha,beK_len]) (by omega)
 rw [at32N,h1,h2];omega
theorem bodyL_append (a b:List ByteArray):bodyL (a++b)=bodyL b++bodyL a:=by
 induction a with
 | nil=>simp [bodyL]
 | cons c a ih=>simp [bodyL,ih]
theorem offsL_split (cs:List ByteArray):∀ {n i:Nat},i<n→∃ r,offsL cs n=offsL cs i++(beK (1024-bodyN (cs.take (i+1))) 2++r)
 | n+1,i,h=>by
   by_cases hi:i=n
   ·subst hi;exact ⟨[],by simp [offsL]⟩
   ·obtain ⟨r,hr⟩:=offsL_split cs (show i<n by omega)
    exact ⟨r++beK (1024-bodyN (cs.take (n+1))) 2,by rw [offsL,hr];simp⟩
theorem rb_split (k l:Nat) (cs:List ByteArray):∃ r,sealL k l cs=beK (crcN (midL k l cs cs.length)) 4++([UInt8.ofNat k,0]++(beK cs.length 2++(beK l 4++(offsL cs cs.length++r))))∧∃ z,r=z++bodyL cs:=by
 refine ⟨_, ?_,List.replicate (1012-2*cs.length-bodyN (cs.take cs.length)) 0,rfl⟩
 rw [sealL]
 congr 1
 rw [midL,headL,List.take_length]
 simp only [List.append_assoc]
section
variable {k l:Nat} {cs:List ByteArray}
theorem rb_sum (hu:usedN cs≤1012):at32N (sealL k l cs) 0=crcN ((sealL k l cs).drop 4):=by
 have:=at32_mid (a:=[]) (b:=midL k l cs cs.length) (o:=0) rfl (crcN_lt (midL k l cs cs.length))
 have hd:(sealL k l cs).drop 4=midL k l cs cs.length:=by
  rw [sealL];exact List.drop_left' (beK_len 4 _)
 rw [hd]
 exact this
theorem rb_kind (hu:usedN cs≤1012) (hk:k≤5):((sealL k l cs).getD 4 0).toNat=k:=by
 obtain ⟨r,h,_⟩:=rb_split k l cs
 rw [h]
 have:=getD_mid (beK (crcN (midL k l cs cs.length)) 4) ([0]++(beK cs.length 2++(beK l 4++(offsL cs cs.length++r)))) (UInt8.ofNat k)
 rw [beK_len] at this
 rw [show ∀ t:List UInt8,[UInt8.ofNat k,0]++t=UInt8.ofNat k :: ([0]++t) from fun _=>rfl,this,UInt8.toNat_ofNat']
 omega
theorem cells_few (hu:usedN cs≤1012):cs.length≤253:=by
 have:=used_body cs
 have h2:2*cs.length≤bodyN cs:=by
  clear hu this
  induction cs with
  | nil=>simp
  | cons c cs ih=>simp only [bodyN,List.map_cons,List.sum_cons,List.length_cons] at *;omega
 omega
theorem rb_count (hu:usedN cs≤1012):at16N (sealL k l cs) 6=cs.length:=by
 obtain ⟨r,h,_⟩:=rb_split k l cs
 have hc:=cells_few hu
 rw [h,← List.append_assoc]
 exact at16_mid (by rw [List.length_append,beK_len];rfl) (by omega)
theorem rb_link (hu:usedN cs≤1012) (hl:l≤2147483647):at32N (sealL k l cs) 8=l:=by
 obtain ⟨r,h,_⟩:=rb_split k l cs
 rw [h,← List.append_assoc,← List.append_assoc]
 exact at32_mid (by rw [List.length_append,List.length_append,beK_len,beK_len];rfl) (by omega)
theorem rb_offs (hu:usedN cs≤1012) {i:Nat} (hi:i<cs.length):at16N (sealL k l cs) (12+2*i)=1024-bodyN (cs.take (i+1)):=by
 obtain ⟨r,h,_⟩:=rb_split k l cs
 obtain ⟨r2,h2⟩:=offsL_split cs hi
 rw [h,h2,List.append_assoc (offsL cs i),List.append_assoc (beK _ 2) r2,← List.append_assoc,← List.append_assoc,← List.append_assoc,← List.append_assoc]
 exact at16_mid (by simp only [List.length_append,beK_len,offsL_len];rfl) (by omega)
theorem rb_cell (hu:usedN cs≤1012) {i:Nat} (hi:i<cs.length):∃ X Y,sealL k l cs=X++(beK cs[i].size 2++(cs[i].data.toList++Y))∧X.length=1024-bodyN (cs.take (i+1)):=by
 obtain ⟨r,h,z,hz⟩:=rb_split k l cs
 have hs:bodyL cs=bodyL (cs.drop (i+1))++(beK cs[i].size 2++(cs[i].data.toList++bodyL (cs.take i))):=by
  conv=>lhs;rw [← List.take_append_drop (i+1) cs]
  rw [bodyL_append,List.take_succ_eq_append_getElem hi,bodyL_snoc]
  simp only [List.append_assoc]
 have hlen:=sealL_len (k:=k) (l:=l) hu
 have b1:=body_le hu (i+1) (by omega)
 have b2:=bodyN_take cs hi
 subst hz
 refine ⟨beK (crcN (midL k l cs cs.length)) 4++([UInt8.ofNat k,0]++(beK cs.length 2++(beK l 4++(offsL cs cs.length++(z++bodyL (cs.drop (i+1))))))),bodyL (cs.take i), ?_, ?_⟩
 ·rw [h,hs];simp only [List.append_assoc]
 ·rw [h,hs] at hlen
  simp only [List.length_append,beK_len,bodyL_len,Array.length_toList] at hlen ⊢
  rw [show cs[i].data.size=cs[i].size from rfl] at hlen
  omega
theorem rb_read (hu:usedN cs≤1012):∀ {i:Nat},i≤cs.length→readGo (bsOf (sealL k l cs)) i=some (cs.take i)
 | 0,_=>rfl
 | i+1,h=>by
   have hi:i<cs.length:=by omega
   obtain ⟨X,Y,hX,hl⟩:=rb_cell (k:=k) (l:=l) hu hi
   have b1:=body_le hu (i+1) h
   have b2:=bodyN_take cs hi
   have a1:=rb_offs (k:=k) (l:=l) hu hi
   have a2:at16N (sealL k l cs) (1024-bodyN (cs.take (i+1)))=cs[i].size:=by
    rw [hX];exact at16_mid hl (by omega)
   rw [readGo,rb_read hu (by omega),Option.bind_some,bsOf_data,a1,a2,if_neg (by omega),List.take_succ_eq_append_getElem hi]
   congr 3
   have hd:(sealL k l cs).drop (1024-bodyN (cs.take i++[cs[i]])+2)=cs[i].data.toList++Y:=by
    rw [← List.take_succ_eq_append_getElem hi,hX,← List.append_assoc]
    exact List.drop_left' (by rw [List.length_append,hl,beK_len])
   have ht:1024-bodyN (cs.take i++[cs[i]])+2+cs[i].size-(1024-bodyN (cs.take i++[cs[i]])+2)=cs[i].data.toList.length:=by simp
   rw [Lib.extract_eq,bsOf_data,hd,ht,List.take_left]
end
theorem openN_some {s:ByteArray} {n:Nat} {p:Pg} (h:openN s n=some p):Valid s p:=by
 unfold openN at h
 obtain ⟨cs,_,h2⟩:=Option.bind_eq_some_iff.1 h
 exact (fin_some.1 h2).2
theorem openN_valid {s:ByteArray} {p:Pg} (h:Valid s p):openN s p.2.2.length=some p:=by
 obtain ⟨k,l,cs⟩:=p
 obtain ⟨h1,h2,h3,h4,h5⟩:=h
 simp only at h1 h2 h3 h4 h5
 subst h5
 unfold openN
 rw [rb_read h4 (Nat.le_refl _),List.take_length,Option.bind_some,bsOf_data,rb_kind h4 h2,rb_link h4 h3,fin_some]
 exact ⟨rfl,h1,h2,h3,h4,rfl⟩
theorem openP_valid {s:ByteArray} {p:Pg}:openP s=some p↔Valid s p:=by
 constructor
 ·intro h
  unfold openP at h
  split at h
  ·cases h
  ·exact openN_some h
 ·intro h
  have h0:=h
  obtain ⟨h1,h2,h3,h4,h5⟩:=h
  have c1:at16N s.data.toList 6=p.2.2.length:=by rw [← h5,bsOf_data];exact rb_count h4
  have c2:=cells_few h4
  have c3:at32N s.data.toList 0=crcN (s.data.toList.drop 4):=by rw [← h5,bsOf_data];exact rb_sum h4
  have c4:s.size=1024:=by rw [← h5,bsOf_size];exact sealL_len h4
  unfold openP
  rw [if_neg (by rintro (h | h | h);exact h c4;exact h c3;omega),c1]
  exact openN_valid h0
theorem openR_valid {s:ByteArray} {p:Pg}:openR s=some p↔Valid s p:=by
 constructor
 ·intro h
  unfold openR at h
  split at h
  ·cases h
  ·exact openN_some h
 ·intro h
  have h0:=h
  obtain ⟨h1,h2,h3,h4,h5⟩:=h
  have c1:at16N s.data.toList 6=p.2.2.length:=by rw [← h5,bsOf_data];exact rb_count h4
  have c2:=cells_few h4
  have c4:s.size=1024:=by rw [← h5,bsOf_size];exact sealL_len h4
  unfold openR
  rw [if_neg (by rintro h;exact h c4),c1,Nat.min_eq_left (by omega)]
  exact openN_valid h0
theorem open_same (s:ByteArray):openP s=openR s:=by
 cases h:openR s with
 | none =>
   cases h2:openP s with
   | none=>rfl
   | some p=>rw [openR_valid.2 (openP_valid.1 h2)] at h;cases h
 | some p=>exact openP_valid.2 (openR_valid.1 h)
end Go.Proofs.YtjihboddejaelaaGreat
namespace Go.Proofs.YtjihboddejaelaaGreat
open Go.RowKit
structure Pl where
 L:Lg
 most:Nat
 ring:List Pf
 pages:Nat
 free:Nat
 turned:List Nat
 hits:Int
 misses:Int
 spills:Int
def dropN (x:Nat) (F:List Pf):List Pf:=F.filter (fun f=>f.n != x)
def findN (x:Int) (F:List Pf):Option Pf:=F.find? (fun f=>(f.n:Int) == x)
def idle (F:List Pf):Option Pf:=F.find? (fun f=>f.pins == 0)
def insN (x:Nat) (T:List Nat):List Nat:=if x∈T then T else x :: T
def blankS:ByteArray:=sealS 3 0 []
def Pl.spill (P:Pl) (f:Pf):Pl×Int :=
 if f.dirty then
  if P.L.appendE f.n f.s=0 then ({ P with L:=P.L.append f.n f.s,spills:=wrap64 (P.spills+1),ring:=dropN f.n P.ring },0)
  else ({ P with L:=P.L.append f.n f.s },P.L.appendE f.n f.s)
 else ({ P with ring:=dropN f.n P.ring },0)
def Pl.room (P:Pl):Pl×Int :=
 if P.ring.length<P.most then (P,0) else match idle P.ring with
  | none=>(P,6)
  | some f=>P.spill f
def Pl.fetch (P:Pl) (x:Nat):Pl×Int :=
 if P.L.rw.readE x=0 then ({ P with misses:=wrap64 (P.misses+1),ring:=P.ring++[⟨x,P.L.rw.readS x,0,false⟩] },0) else (P,P.L.rw.readE x)
def Pl.get (P:Pl) (x:Int):Pl×Int :=
 if 0≤x∧x<(P.pages:Int) then
  match findN x P.ring with
  | some f=>({ P with hits:=wrap64 (P.hits+1),ring:=dropN f.n P.ring++[f] },0)
  | none=>if P.room.2=0 then P.room.1.fetch x.toNat else P.room
 else (P,7)
def Pl.lastF (P:Pl):Pf:=P.ring.getLastD pf0
def Pl.setLast (P:Pl) (f:Pf):Pl:={ P with ring:=P.ring.dropLast++[f] }
def Pl.put (P:Pl) (x:Int) (s:ByteArray):Pl×Int :=
 if (P.get x).2=0 then ({ (P.get x).1.setLast { (P.get x).1.lastF with s:=s,dirty:=true } with turned:=insN x.toNat (P.get x).1.turned },0) else P.get x
def Pl.write (P:Pl) (x:Int) (s:ByteArray):Pl×Int:=if x=0∨s.size≠1024 then (P,1) else P.put x s
def Pl.setFree (P:Pl) (n:Nat):Pl×Int :=
 if (P.get 0).2=0 then
  match openP (P.get 0).1.lastF.s with
  | none=>((P.get 0).1,4)
  | some pg =>
    if ((P.get 0).1.put 0 (sealS 4 n pg.2.2)).2=0 then ({ ((P.get 0).1.put 0 (sealS 4 n pg.2.2)).1 with free:=n },0)
    else (P.get 0).1.put 0 (sealS 4 n pg.2.2)
 else P.get 0
def Pl.grow (P:Pl):Pl×Int :=
 if P.room.2=0 then ({ P.room.1 with pages:=P.room.1.pages+1,ring:=P.room.1.ring++[⟨P.room.1.pages,blankS,0,true⟩],turned:=insN P.room.1.pages P.room.1.turned },0) else P.room
def Pl.reuse (P:Pl):Pl×Int :=
 if (P.get P.free).2=0 then
  match openP (P.get P.free).1.lastF.s with
  | none=>((P.get P.free).1,4)
  | some pg =>
    if ((P.get P.free).1.setFree pg.2.1).2=0 then ((P.get P.free).1.setFree pg.2.1).1.put P.free blankS
    else (P.get P.free).1.setFree pg.2.1
 else P.get P.free
def Pl.alloc (P:Pl):Pl×Int:=if P.free=0 then (if 67108864<(P.pages+1)*1024 then (P,8) else P.grow) else P.reuse
def Pl.allocN (P:Pl):Nat:=if P.free=0 then P.pages else P.free
def Pl.freeP (P:Pl) (x:Int):Pl×Int :=
 if x=0 then (P,1)
 else if (P.put x (sealS 3 P.free [])).2=0 then (P.put x (sealS 3 P.free [])).1.setFree x.toNat
 else P.put x (sealS 3 P.free [])
def cleanN (x:Nat) (F:List Pf):List Pf:=F.map (fun f=>if f.n=x then { f with dirty:=false } else f)
def textN (x:Nat) (F:List Pf):ByteArray:=((findN x F).map (·.s)).getD ⟨#[]⟩
def Pl.flush:List Nat→Pl→Pl×Int
 | [],P=>(P,0)
 | [n],P =>
   if P.L.commitE n (textN n P.ring) P.pages=0 then ({ P with L:=P.L.commit n (textN n P.ring) P.pages,ring:=cleanN n P.ring },0)
   else ({ P with L:=P.L.commit n (textN n P.ring) P.pages },P.L.commitE n (textN n P.ring) P.pages)
 | n :: m :: r,P =>
   if P.L.appendE n (textN n P.ring)=0 then Pl.flush (m :: r) { P with L:=P.L.append n (textN n P.ring),ring:=cleanN n P.ring }
   else ({ P with L:=P.L.append n (textN n P.ring) },P.L.appendE n (textN n P.ring))
def dirtyN (F:List Pf):List Nat:=((F.filter (·.dirty)).map (·.n)).mergeSort (·≤ ·)
def Pl.told (R:Pl×Int):Pl×Int :=
 if R.2=0 then
  (if 1000≤R.1.L.fs.length then ({ R.1 with turned:=[],L:=R.1.L.checkpoint.1 },R.1.L.checkpoint.2) else ({ R.1 with turned:=[] },0))
 else R
def Pl.commit (P:Pl):Pl×Int :=
 if P.turned=[] then (P,0)
 else if dirtyN P.ring=[] then (if (P.get 0).2=0 then Pl.told (Pl.flush [0] (P.get 0).1) else P.get 0)
 else Pl.told (Pl.flush (dirtyN P.ring) P)
def Pl.root (P:Pl):Pl×Int :=
 if (P.get 0).2=0 then
  match openP (P.get 0).1.lastF.s with
  | none=>({ (P.get 0).1 with free:=0 },4)
  | some pg=>({ (P.get 0).1 with free:=pg.2.1 },0)
 else P.get 0
def Pl.rolled (P:Pl):Pl:={ P with L:=P.L.back,ring:=P.ring.filter (fun f=>!(decide (f.n∈P.turned))),turned:=[],pages:=P.L.pages }
def Pl.rollback (P:Pl):Pl×Int:=if P.ring.any (fun f=>decide (0<f.pins)) then (P,6) else P.rolled.root
end Go.Proofs.YtjihboddejaelaaGreat
namespace Go.Proofs.YtjihboddejaelaaGreat
open Go.RowKit
open Go.BigFrame
open Go.Maps
def frElem:Value→Option (DataW Unit×List MemPlace)
 | .pointer none=>some (.lit (.int .i64 (-1)),[])
 | .pointer (some ⟨b,0,none⟩)=>some (.lit (.int .i64 (b:Int)),[])
 | _=>none
def ptrO:Option Nat→Value
 | none=>.pointer none
 | some b=>.pointer (some ⟨b,0,none⟩)
theorem frElem_inv {v:Value} {x:Int} {ps:List MemPlace} (h:frElem v=some (.lit (.int .i64 x),ps)):(x = -1∧v = .pointer none)∨∃ b:Nat,x=b∧v = .pointer (some ⟨b,0,none⟩):=by
 unfold frElem at h
 split at h
 ·injection h with h;injection h with h1 h2;injection h1 with h3;injection h3 with h4 h5;exact .inl ⟨h5.symm,rfl⟩
 ·rename_i b
  injection h with h;injection h with h1 h2;injection h1 with h3;injection h3 with h4 h5;exact .inr ⟨b,h5.symm,rfl⟩
 ·cases h
def Says (D:DataW Unit) (g:Int→Option Nat):Prop:=∀ x:Int,(g x=none→Maps.has D (.int .i64 x)=false)∧∀ v,g x=some v→∀ z,D.atKey (.int .i64 x) z = .lit (.int .i64 (v:Int))
theorem Says.has {D:DataW Unit} {g:Int→Option Nat} (h:Says D g) (x:Int):Maps.has D (.int .i64 x)=(g x).isSome:=by
 cases hg:g x with
 | none=>rw [(h x).1 hg];rfl
 | some v=>rw [has_true_of_atKey ((h x).2 v hg)];rfl
theorem Says.put {D:DataW Unit} {g:Int→Option Nat} (hm:Maps.IsMap D) (h:Says D g) (k:Int) (v:Nat):Says (D.put (.int .i64 k) (.lit (.int .i64 (v:Int)))) (fun y=>if y=k then some v else g y):=fun x=>by
 dsimp only
 by_cases hx:x=k
 ·subst hx
  rw [if_pos rfl]
  exact ⟨fun h=>(by cases h),fun t' h z=>by cases h;exact atKey_put_same (k:=.int .i64 x) hm trivial _ _⟩
 ·have hne:(Lit.int .i64 x) ≠ .int .i64 k:=fun e=>by cases e;exact hx rfl
  rw [if_neg hx]
  refine ⟨fun h1=>?_,fun t' h1 z=>?_⟩
  ·rw [has_put_other hne];exact (h x).1 h1
  ·rw [atKey_put_other hne];exact (h x).2 t' h1 z
theorem Says.del {D:DataW Unit} {g:Int→Option Nat} (h:Says D g) (k:Int):Says (D.del (.int .i64 k)) (fun y=>if y=k then none else g y):=fun x=>by
 dsimp only
 by_cases hx:x=k
 ·subst hx
  rw [if_pos rfl]
  exact ⟨fun _=>has_del_same,fun t' h=>by cases h⟩
 ·have hne:(Lit.int .i64 x) ≠ .int .i64 k:=fun e=>by cases e;exact hx rfl
  rw [if_neg hx]
  refine ⟨fun h1=>?_,fun t' h1 z=>?_⟩
  ·rw [has_del_other hne];exact (h x).1 h1
  ·rw [atKey_del_other hne];exact (h x).2 t' h1 z
theorem Says.congr {D:DataW Unit} {g g':Int→Option Nat} (h:Says D g) (e:∀ x,g x=g' x):Says D g':=by
 have:g=g':=funext e
 rwa [← this]
theorem own_tight {R:Value→Option (DataW Unit×List MemPlace)} {w:World} {b n:Nat} {D:DataW Unit} (h:w.ownsMap Tryz.prog 3 R b n D):w.ownsMap Tryz.prog 3 R b (Maps.size D) D:=by
 obtain ⟨es,cl,hb,F,hs,rfl⟩:=h
 exact ⟨es,cl,hb,F,by simp [Maps.size,length_sorted],rfl⟩
def GM (R:Value→Option (DataW Unit×List MemPlace)) (w:World) (b:Nat) (g:Int→Option Nat) (c:Nat):Prop:=∃ D:DataW Unit,w.ownsMap Tryz.prog 3 R b c D∧Says D g∧Maps.size D=c
section
variable {R:Value→Option (DataW Unit×List MemPlace)} {w w':World} {b c:Nat} {g g':Int→Option Nat}
theorem GM.lt (h:GM R w b g c):b<w.heap.size:=by
 obtain ⟨D,h1,_⟩:=h
 exact h1.lt
theorem GM.block (h:GM R w b g c) (hb:w'.heap[b]? = w.heap[b]?):GM R w' b g c:=by
 obtain ⟨D,⟨es,cl,h1,h2⟩,h3⟩:=h
 exact ⟨D,⟨es,cl,hb.trans h1,h2⟩,h3⟩
theorem GM.below (h:GM R w b g c) (hb:Below w.heap.size w w'):GM R w' b g c:=h.block (hb.block b h.lt)
theorem GM.turn {x y:List (Option Nat)} (h:GM R w b g c) (ht:Turn x y w w') (hg:some b∉x):GM R w' b g c:=h.block (ht.block b h.lt hg)
theorem GM.far (h:GM R w b g c) {p:Addr} (hp:b≠p.block) (u:Value):GM R (w.setCell p u) b g c:=h.block (Below.heap_setCell w p u b hp)
theorem GM.made (R:Value→Option (DataW Unit×List MemPlace)) (w:World):GM R (w.alloc (.map #[] 0)) w.heap.size (fun _=>none) 0:=⟨_,World.ownsMap_made _ _ _ _,fun x=>⟨fun _=>rfl,fun t h=>by cases h⟩,rfl⟩
theorem GM.congr (h:GM R w b g c) (e:∀ x,g x=g' x):GM R w b g' c:=by
 have:g=g':=funext e
 rwa [← this]
theorem GM.notcells (h:GM R w b g c) {t:TypeId} {cs:Array Value} (hh:Has w b t cs):False:=by
 obtain ⟨D,⟨es,cl,h1,_⟩,_⟩:=h
 unfold Has at hh
 rw [hh] at h1;cases h1
theorem GM.put {t e:TypeId} (ht : Tryz.prog.underlying t=some (.map 3 e)) (h:GM R w b g c) (hc:c≤100000000) (k:Int) (hk:(Lit.int .i64 k).wf=true) {val:Value} {v:Nat} {ps:List MemPlace} (hv:R val=some (.lit (.int .i64 (v:Int)),ps)) :
 ∃ w',(Instr.mapUpdate t (.map (some b)) (.int .i64 k) val).run Tryz.prog w = .ok () w'∧GM R w' b (fun y=>if y=k then some v else g y) (if (g k).isSome then c else c+1)∧w.grownBy w' (some b):=by
 obtain ⟨D,h1,h2,h3⟩:=h
 obtain ⟨w',hr,h4,h5⟩:=h1.update lawInt ht (by unfold maxLen;omega) (keyOf_int_mk Tryz.underlying3 hk) hv
 have hs:=size_put (k:=.int .i64 k) (h1.tidy lawInt) (.lit (.int .i64 (v:Int)))
 rw [h2.has,h3] at hs
 have ht:=own_tight h4
 rw [hs] at ht
 exact ⟨w',hr,⟨_,ht,h2.put h1.isMap k v,hs⟩,h5⟩
theorem GM.del {t e:TypeId} (ht : Tryz.prog.underlying t=some (.map 3 e)) (h:GM R w b g c) (k:Int) (hk:(Lit.int .i64 k).wf=true) (ty:TypeId) :
 ∃ w',(Builtin.delete_ #[t,3] ty #[.map (some b),.int .i64 k]).run Tryz.prog w = .ok (.tuple #[]) w'∧GM R w' b (fun y=>if y=k then none else g y) (if (g k).isSome then c-1 else c)∧w.grownBy w' (some b):=by
 obtain ⟨D,h1,h2,h3⟩:=h
 obtain ⟨w',hr,h4,h5⟩:=h1.drop lawInt ht (keyOf_int_mk Tryz.underlying3 hk) ty
 have hs:=size_del (k:=.int .i64 k) (h1.tidy lawInt)
 rw [h2.has,h3] at hs
 have hs2:Maps.size (D.del (.int .i64 k))=if (g k).isSome then c-1 else c:=by
  cases hg:(g k).isSome <;> rw [hg] at hs <;> simp at hs ⊢ <;> omega
 have ht:=own_tight h4
 rw [hs2] at ht
 exact ⟨w',hr,⟨_,ht,h2.del k,hs2⟩,h5.grown⟩
end
section
variable {w:World} {ops:Array Oper} {rest:List Oper} {o:Oper} {a:Act} {Q:Exit→Act→World→Prop}
theorem zeroFr (w:World):(zeroValue 102).run Tryz.prog w = .ok (.pointer none) w:=by kernel_rfl
theorem wpList_lookup_fr (w:World) {ops:Array Oper} {rest:List Oper} {o:Oper} {a:Act} {Q:Exit→Act→World→Prop} (hg:o.guard=none) (m x:Operand) (hop:o.op=Op.lookup 103 m x false) (b c:Nat) (g:Int→Option Nat)
 (hm:a.eval m = .map (some b)) (h:GM frElem w b g c) (k:Int) (hx:a.eval x = .int .i64 k) (hk:(Lit.int .i64 k).wf=true)
 (hK:wpList Tryz.prog ops Q rest (a.put o.dst (ptrO (g k))) w):wpList Tryz.prog ops Q (o :: rest) a w:=by
 obtain ⟨D,h1,h2,h3⟩:=h
 refine wpList_plain hg fun K' hK'=>?_
 obtain ⟨v,ps,hrun,hv⟩:=h1.lookup lawInt Tryz.underlying103 (zeroFr w) (zd:=.lit (.int .i64 (-1))) (zp:=[]) rfl (keyOf_int_mk Tryz.underlying3 hk)
 have hvv:v=ptrO (g k):=by
  cases hgk:g k with
  | none =>
    rw [atKey_of_not_has ((h2 k).1 hgk)] at hv
    rcases frElem_inv hv with ⟨_,e⟩ | ⟨y,e,_⟩
    ·exact e
    ·omega
  | some y =>
    rw [(h2 k).2 y hgk] at hv
    rcases frElem_inv hv with ⟨e,_⟩ | ⟨z,e,e2⟩
    ·omega
    ·have:z=y:=by omega
     rw [e2,this];rfl
 subst hvv
 unfold Oper.wp
 simp [execOp,hop,hm,hx,hrun,Result.andThen]
 exact hK' _ _ hK
theorem wpList_put_gm {R:Value→Option (DataW Unit×List MemPlace)} (w:World) {ops:Array Oper} {rest:List Oper} {o:Oper} {a:Act} {Q:Exit→Act→World→Prop} (hg:o.guard=none) (m x v:Operand) (t e:TypeId) (hop:o.op=Op.mapUpdate t m x v)
 (ht : Tryz.prog.underlying t=some (.map 3 e)) (b c:Nat) (g:Int→Option Nat) (hm:a.eval m = .map (some b)) (h:GM R w b g c) (hc:c≤100000000) (k:Int) (hx:a.eval x = .int .i64 k) (hk:(Lit.int .i64 k).wf=true)
 (val:Value) (y:Nat) (hval:a.eval v=val) (ps:List MemPlace) (hv:R val=some (.lit (.int .i64 (y:Int)),ps))
 (hK:∀ w',GM R w' b (fun z=>if z=k then some y else g z) (if (g k).isSome then c else c+1)→w.grownBy w' (some b)→wpList Tryz.prog ops Q rest (a.put o.dst undef) w'):wpList Tryz.prog ops Q (o :: rest) a w:=by
 refine wpList_plain hg fun K' hK'=>?_
 obtain ⟨w',hrun,h1,h2⟩:=h.put ht hc k hk hv
 unfold Oper.wp
 simp [execOp,hop,hm,hx,hval,hrun,Result.andThen]
 exact hK' _ _ (hK w' h1 h2)
end
theorem intElem (v:Nat) (hv:v≤4611686018427387904):plainElem (H:=Unit) Tryz.prog 3 (.int .i64 (v:Int))=some (.lit (.int .i64 (v:Int)),[]):=plainElem_int Tryz.underlying3 (wfI (by omega) (by omega))
end Go.Proofs.YtjihboddejaelaaGreat
namespace Go.Proofs.YtjihboddejaelaaGreat
open Go.RowKit
open Go.BigFrame
section
variable {w w':World} {e:Nat} {A A1 A2:List Nat} {a:Nat} {F F1 F2:List Pf} {f:Pf}
theorem Ring.nbrs (h:Ring w e (A1++a :: A2) (F1++f :: F2)) (hl:A1.length=F1.length) :
 (∃ u v,Has w (A1.getLastD e) 166 (frC u v a))∧∃ u v,Has w (A2.headD e) 166 (frC u a v):=by
 obtain ⟨G1,G2,eq,h3,h4⟩:=seg_split h.row
 have hl2:=seg_len h3
 obtain ⟨e1,e2⟩:=List.append_inj eq (by omega)
 subst e1;subst e2
 obtain ⟨f2,r,e3,h5,h6⟩:=h4
 injection e3 with e4 e5
 subst e4;subst e5
 have hends:=h.ends
 rw [getLastD_app,List.getLastD_cons,headD_app] at hends
 constructor
 ·rcases snoc_of A1 with rfl | ⟨B1,z,rfl⟩
  ·exact ⟨pf0,_,hends⟩
  ·obtain ⟨G3,G4,eq2,h7,h8⟩:=seg_split h3
   obtain ⟨f3,r3,_,h9,_⟩:=h8
   rw [getLastD_snoc]
   exact ⟨f3,_,h9⟩
 ·rcases A2 with _ | ⟨b,A2⟩
  ·exact ⟨pf0,_,hends⟩
  ·obtain ⟨f3,r3,_,h9,_⟩:=h6
   exact ⟨f3,_,h9⟩
theorem seg_cells {w:World}:∀ {p:Nat} {A:List Nat} {F:List Pf} {q:Nat},seg w p A F q→∀ x∈A,∃ t cs,Has w x t cs
 | _,[],_,_,_,_,hx=>by cases hx
 | p,a :: A,_,q,h,x,hx=>by
   obtain ⟨f,r,rfl,h1,h2⟩:=h
   rcases List.mem_cons.1 hx with rfl | hx
   ·exact ⟨_,_,h1⟩
   ·exact seg_cells h2 x hx
theorem Ring.cells (h:Ring w e A F):∀ x∈e :: A,∃ t cs,Has w x t cs:=fun x hx=>by
 rcases List.mem_cons.1 hx with rfl | hx
 ·exact ⟨_,_,h.ends⟩
 ·exact seg_cells h.row x hx
theorem Ring.off (h:Ring w e A F) {R:Value→Option (DataW Unit×List MemPlace)} {b c:Nat} {g:Int→Option Nat} (hm:GM R w b g c):b∉e :: A:=fun hx=>by
 obtain ⟨t,cs,hh⟩:=h.cells b hx
 exact hm.notcells hh
theorem Ring.grown (h:Ring w e A F) {r:Option Nat} (hg:w.grownBy w' r) (hn:∀ x∈e :: A,some x≠r):Ring w' e A F:=h.kept fun x hx=>hg.block x (h.lt x hx) (hn x hx)
theorem Ring.below (h:Ring w e A F) (hb:Below w.heap.size w w'):Ring w' e A F:=h.kept fun x hx=>hb.block x (h.lt x hx)
end
theorem getLastD_mem (A:List Nat) (e:Nat):A.getLastD e∈e :: A:=by
 rcases snoc_of A with rfl | ⟨B,z,rfl⟩
 ·exact List.mem_cons_self ..
 ·rw [getLastD_snoc];exact List.mem_cons_of_mem _ (List.mem_append_right _ (List.mem_singleton.2 rfl))
theorem headD_mem (A:List Nat) (e:Nat):A.headD e∈e :: A:=by
 rcases A with _ | ⟨b,A⟩
 ·exact List.mem_cons_self ..
 ·exact List.mem_cons_of_mem _ (List.mem_cons_self ..)
def LeavePost (w:World) (p a e h:Nat) (cs:Array Value) (A A':List Nat) (F':List Pf) (f:Pf) (g:Int→Option Nat) (c:Nat) (v:Value) (en:Ending) (w':World):Prop :=
 en = .returned v∧Ring w' e A' F'∧GM frElem w' h (fun y=>if y=f.n then none else g y) (if (g f.n).isSome then c-1 else c)∧Has w' p 106 cs∧(∃ x y,Has w' a 166 (frC f x y))∧Turn (some h :: (e :: A).map some) (some h :: (e :: A).map some) w w'
theorem mem_somes {l:List Nat} {k:Nat}:some k∈l.map some↔k∈l:=by simp
theorem set_turn (b:List (Option Nat)) (x i:Nat) (v:Value) (w:World) (hx:some x∈b):Turn b b w (w.setCell ⟨x,i,none⟩ v) :=
 ⟨rfl,rfl,rfl,by simp [World.setCell],fun k _ hk=>Below.heap_setCell _ _ _ _ (fun e=>hk (by rw [show k=x from e];exact hx)),fun _ h=>.inl h⟩
theorem grown_turn {b:List (Option Nat)} {x:Nat} {w w':World} (hg:w.grownBy w' (some x)) (hx:some x∈b):Turn b b w w' :=
 ⟨hg.os,hg.tape,hg.output,hg.size,fun k hk hn=>hg.block k hk (fun e=>hn (by rw [e];exact hx)),fun _ h=>.inl h⟩
set_option maxRecDepth 100000 in
set_option maxHeartbeats 6400000 in
theorem pool_leave (p a e h:Nat) (cs:Array Value) (A1 A2:List Nat) (F1 F2:List Pf) (f:Pf) (g:Int→Option Nat) (c:Nat) (w:World) (hp:Has w p 106 cs) (h3:cs[3]? = some (.map (some h)))
 (hr:Ring w e (A1++a :: A2) (F1++f :: F2)) (hl:A1.length=F1.length) (hm:GM frElem w h g c) (hoff:p∉e :: (A1++a :: A2)) (hn:f.n≤4294967296) :
 Calls Tryz.prog 164 #[.pointer (some ⟨p,0,none⟩),.pointer (some ⟨a,0,none⟩)] w (LeavePost w p a e h cs (A1++a :: A2) (A1++A2) (F1++F2) f g c (.tuple #[])):=by
 have ha:=hr.at hl
 obtain ⟨⟨u1,v1,hpr⟩,u2,v2,hnx⟩:=hr.nbrs hl
 have hlv:=hr.leave hl
 have m1:A1.getLastD e∈e :: (A1++a :: A2):=by
  have:=getLastD_mem A1 e
  simp only [List.mem_cons,List.mem_append] at this ⊢
  rcases this with h | h
  ·exact .inl h
  ·exact .inr (.inl h)
 have m2:A2.headD e∈e :: (A1++a :: A2):=by
  have:=headD_mem A2 e
  simp only [List.mem_cons,List.mem_append] at this ⊢
  rcases this with h | h
  ·exact .inl h
  ·exact .inr (.inr (.inr h))
 have nd:=hr.nodup
 rw [List.nodup_cons,List.nodup_append,List.nodup_cons] at nd
 obtain ⟨he,n1,n2,n3⟩:=nd
 have hea:¬ e=a:=fun x=>he (x ▸ List.mem_append_right _ (List.mem_cons_self ..))
 have q1:¬ a=A1.getLastD e:=fun x=>by
  have:=getLastD_mem A1 e
  rw [← x] at this
  rcases List.mem_cons.1 this with h | h
  ·exact hea h.symm
  ·exact n3 a h a (List.mem_cons_self ..) rfl
 have q2:¬ a=A2.headD e:=fun x=>by
  have:=headD_mem A2 e
  rw [← x] at this
  rcases List.mem_cons.1 this with h | h
  ·exact hea h.symm
  ·exact n2.1 h
 have p1:¬ p=A1.getLastD e:=fun x=>hoff (x ▸ m1)
 have p2:¬ p=A2.headD e:=fun x=>hoff (x ▸ m2)
 have hh1:¬ h=A1.getLastD e:=fun x=>hm.notcells (x ▸ hpr)
 have hh2:¬ h=A2.headD e:=fun x=>hm.notcells (x ▸ hnx)
 have T1:=Lib.hid ((set_turn (some h :: (e :: (A1++a :: A2)).map some) (A1.getLastD e) 5 (ptrB (A2.headD e)) w (List.mem_cons_of_mem _ (mem_somes.2 m1))).trans (set_turn _ (A2.headD e) 4 (ptrB (A1.getLastD e)) _ (List.mem_cons_of_mem _ (mem_somes.2 m2))))
 obtain ⟨pr,hpre⟩:∃ pr,A1.getLastD e=pr:=⟨_,rfl⟩
 obtain ⟨nx,hnxe⟩:∃ nx,A2.headD e=nx:=⟨_,rfl⟩
 rw [hpre] at ha hpr hlv q1 p1 hh1 T1
 rw [hnxe] at ha hnx hlv q2 p2 hh2 T1
 have HL:=Lib.hid hlv
 have A0:=Lib.hid ((ha.far (p:=⟨pr,5,none⟩) q1 (ptrB nx)).far (p:=⟨nx,4,none⟩) q2 (ptrB pr))
 have P0:=Lib.hid ((hp.far (p:=⟨pr,5,none⟩) p1 (ptrB nx)).far (p:=⟨nx,4,none⟩) p2 (ptrB pr))
 have M0:=Lib.hid ((hm.far (p:=⟨pr,5,none⟩) hh1 (ptrB nx)).far (p:=⟨nx,4,none⟩) hh2 (ptrB pr))
 have x3:w.cell? ⟨p,3,none⟩=some (.map (some h)):=(hp.cell 3).trans h3
 have a0:w.cell? ⟨a,0,none⟩=some (.int .i64 f.n):=ha.cell 0
 have a4:w.cell? ⟨a,4,none⟩=some (ptrB pr):=ha.cell 4
 have a5:w.cell? ⟨a,5,none⟩=some (ptrB nx):=ha.cell 5
 have s5:w.cell? ⟨pr,5,none⟩=some (ptrB a):=hpr.cell 5
 have s4:w.cell? ⟨nx,4,none⟩=some (ptrB a):=hnx.cell 4
 have f5:w.frozen? ⟨pr,5,none⟩=false:=hpr.frozen 5
 have f4:w.frozen? ⟨nx,4,none⟩=false:=hnx.frozen 4
 have WN:=Lib.hid (wfI (x:=(f.n:Int)) (by omega) (by omega))
 clear ha hpr hnx hlv m1 m2 he n1 n2 n3 hea q1 q2 p1 p2 hh1 hh2 hpre hnxe hr hl hm hoff hp hn
 go_enter Tryz.func164,Tryz.ntmps164
 go_wp2_with fail
 go_region
 go_wp2_with fail
 generalize (w.setCell ⟨pr,5,none⟩ (ptrB nx)).setCell ⟨nx,4,none⟩ (ptrB pr)=W at *
 have y3:W.cell? ⟨p,3,none⟩=some (.map (some h)):=(P0.out.cell 3).trans h3
 have b0:W.cell? ⟨a,0,none⟩=some (.int .i64 f.n):=A0.out.cell 0
 obtain ⟨w3,hrun,hm3,hg3⟩:=(M0.out.block (w':=W.drew.drew) rfl).del Tryz.underlying103 (f.n:Int) WN.out 0
 have HM3:=Lib.hid hm3
 have HG3:=Lib.hid hg3
 clear hm3 hg3 x3 a0 a4 a5 s5 s4 f5 f4
 go_region
 go_end0
 have R2:Ring W.drew.drew e (A1++A2) (F1++F2):=HL.out.kept fun x _=>rfl
 have nh:h∉e :: (A1++A2):=R2.off (M0.out.block (w':=W.drew.drew) rfl)
 refine ⟨rfl,R2.grown HG3.out (fun x hx e2=>nh (Option.some.inj e2 ▸ hx)),HM3.out, ?_,⟨pr,nx, ?_⟩, ?_⟩
 ·exact (show Has W.drew.drew p _ _ from P0.out).grown HG3.out (fun e2=>M0.out.notcells (Option.some.inj e2 ▸ P0.out))
 ·exact (show Has W.drew.drew a _ _ from A0.out).grown HG3.out (fun e2=>M0.out.notcells (Option.some.inj e2 ▸ A0.out))
 ·exact (T1.out.trans (Turn.below _ (((Below.refl _ _).drew).drew))).trans (grown_turn HG3.out (List.mem_cons_self ..))
def RLastPost (w:World) (p a e h:Nat) (cs:Array Value) (A:List Nat) (F:List Pf) (f:Pf) (g:Int→Option Nat) (c:Nat) (en:Ending) (w':World):Prop :=
 en = .returned (ptrB a)∧Ring w' e (A++[a]) (F++[f])∧GM frElem w' h (fun y=>if y=f.n then some a else g y) (if (g f.n).isSome then c else c+1)∧Has w' p 106 cs∧Turn (some a :: some h :: (e :: A).map some) (some a :: some h :: (e :: A).map some) w w'
theorem Ring.tail {w:World} {e:Nat} {A:List Nat} {F:List Pf} (h:Ring w e A F):∃ u v,Has w (A.getLastD e) 166 (frC u v e):=by
 rcases snoc_of A with rfl | ⟨B,z,rfl⟩
 ·exact ⟨pf0,_,h.ends⟩
 ·obtain ⟨G3,G4,eq2,h7,h8⟩:=seg_split h.row
  obtain ⟨f3,r3,_,h9,_⟩:=h8
  rw [getLastD_snoc]
  exact ⟨f3,_,h9⟩
set_option maxRecDepth 100000 in
set_option maxHeartbeats 6400000 in
theorem pool_last (p a e h:Nat) (cs:Array Value) (A:List Nat) (F:List Pf) (f:Pf) (va vb:Value) (g:Int→Option Nat) (c:Nat) (w:World) (hp:Has w p 106 cs) (h2:cs[2]? = some (ptrB e)) (h3:cs[3]? = some (.map (some h)))
 (hr:Ring w e A F) (ha:Has w a 166 #[.int .i64 f.n,.string f.s,.int .i64 f.pins,.bool f.dirty,va,vb]) (hea:a∉e :: A) (hm:GM frElem w h g c) (hoff:p∉e :: A) (hpa:¬ p=a) (hc:c≤1000000) (hn:f.n≤4294967296) :
 Calls Tryz.prog 126 #[.pointer (some ⟨p,0,none⟩),.pointer (some ⟨a,0,none⟩)] w (RLastPost w p a e h cs A F f g c):=by
 have hae:¬ a=e:=fun x=>hea (x ▸ List.mem_cons_self ..)
 have hpe:¬ p=e:=fun x=>hoff (x ▸ List.mem_cons_self ..)
 have m1:=getLastD_mem A e
 obtain ⟨u1,v1,hpr⟩:=hr.tail
 have hlast:Ring ((((w.setCell ⟨a,4,none⟩ (ptrB (A.getLastD e))).setCell ⟨a,5,none⟩ (ptrB e)).setCell ⟨A.getLastD e,5,none⟩ (ptrB a)).setCell ⟨e,4,none⟩ (ptrB a)) e (A++[a]) (F++[f]):=hr.lastV ha hea
 obtain ⟨pr,hpre⟩:∃ pr,A.getLastD e=pr:=⟨_,rfl⟩
 have hends:=hr.ends
 rw [hpre] at hlast hpr m1 hends
 have hapr:¬ a=pr:=fun x=>hea (x ▸ m1)
 have hppr:¬ p=pr:=fun x=>hoff (x ▸ m1)
 have hha:¬ h=a:=fun x=>hm.notcells (x ▸ ha)
 have hhe:¬ h=e:=fun x=>hm.notcells (x ▸ hends)
 have hhp:¬ h=pr:=fun x=>hm.notcells (x ▸ hpr)
 have a1:=(ha.set 4 (ptrB pr)).set 5 (ptrB e)
 have P1:=Lib.hid ((hp.far (p:=⟨a,4,none⟩) hpa (ptrB pr)).far (p:=⟨a,5,none⟩) hpa (ptrB e))
 have M1:=Lib.hid ((hm.far (p:=⟨a,4,none⟩) hha (ptrB pr)).far (p:=⟨a,5,none⟩) hha (ptrB e))
 have r1:=(hpr.far (p:=⟨a,4,none⟩) (Ne.symm hapr) (ptrB pr)).far (p:=⟨a,5,none⟩) (Ne.symm hapr) (ptrB e)
 have e1:=(hends.far (p:=⟨a,4,none⟩) (Ne.symm hae) (ptrB pr)).far (p:=⟨a,5,none⟩) (Ne.symm hae) (ptrB e)
 have T1:=Lib.hid ((set_turn (some a :: some h :: (e :: A).map some) a 4 (ptrB pr) w (List.mem_cons_self ..)).trans (set_turn _ a 5 (ptrB e) _ (List.mem_cons_self ..)))
 have x2:w.cell? ⟨p,2,none⟩=some (ptrB e):=(hp.cell 2).trans h2
 have e4:w.cell? ⟨e,4,none⟩=some (ptrB pr):=hends.cell 4
 have a4:w.cell? ⟨a,4,none⟩=some va:=ha.cell 4
 have a5:w.cell? ⟨a,5,none⟩=some vb:=ha.cell 5
 have af:=ha.frozen
 have HL:=Lib.hid hlast
 have WN:=Lib.hid (wfI (x:=(f.n:Int)) (by omega) (by omega))
 have NE:=Lib.hid (And.intro hapr (And.intro hae (And.intro hppr (And.intro hpe (And.intro hha (And.intro hhe hhp))))))
 have MP:=Lib.hid m1
 have A1:=Lib.hid a1;have R1:=Lib.hid r1;have E1:=Lib.hid e1
 clear ha hpr hlast hends hr hea hm hoff hp hpa hapr hppr hha hhe hhp hae hpe m1 hpre hn a1 r1 e1
 go_enter Tryz.func126,Tryz.ntmps126
 go_wp2_with fail
 go_region
 go_wp2_with fail
 clear x2 e4 a4 a5 af
 generalize (w.setCell ⟨a,4,none⟩ (ptrB pr)).setCell ⟨a,5,none⟩ (ptrB e)=W1 at *
 have b4:W1.cell? ⟨a,4,none⟩=some (ptrB pr):=A1.out.cell 4
 have b5:W1.cell? ⟨a,5,none⟩=some (ptrB e):=A1.out.cell 5
 have c5:W1.cell? ⟨pr,5,none⟩=some (ptrB e):=R1.out.cell 5
 have c4:W1.cell? ⟨e,4,none⟩=some (ptrB pr):=E1.out.cell 4
 have cf:=R1.out.frozen
 have df:=E1.out.frozen
 go_region
 go_wp2_with fail
 obtain ⟨hapr,hae,hppr,hpe,hha,hhe,hhp⟩:=NE.out
 have A2:=Lib.hid ((A1.out.far (p:=⟨pr,5,none⟩) hapr (ptrB a)).far (p:=⟨e,4,none⟩) hae (ptrB a))
 have P2:=Lib.hid ((P1.out.far (p:=⟨pr,5,none⟩) hppr (ptrB a)).far (p:=⟨e,4,none⟩) hpe (ptrB a))
 have M2:=Lib.hid ((M1.out.far (p:=⟨pr,5,none⟩) hhp (ptrB a)).far (p:=⟨e,4,none⟩) hhe (ptrB a))
 have T2:=Lib.hid ((T1.out.trans (set_turn _ pr 5 (ptrB a) _ (List.mem_cons_of_mem _ (List.mem_cons_of_mem _ (mem_somes.2 MP.out))))).trans (set_turn _ e 4 (ptrB a) _ (List.mem_cons_of_mem _ (List.mem_cons_of_mem _ (mem_somes.2 (List.mem_cons_self ..))))))
 clear b4 b5 c5 c4 cf df hapr hae hppr hpe hha hhe hhp
 generalize (W1.setCell ⟨pr,5,none⟩ (ptrB a)).setCell ⟨e,4,none⟩ (ptrB a)=W2 at *
 have y3:W2.cell? ⟨p,3,none⟩=some (.map (some h)):=(P2.out.cell 3).trans h3
 have b0:W2.cell? ⟨a,0,none⟩=some (.int .i64 f.n):=A2.out.cell 0
 obtain ⟨w3,hrun,hm3,hg3⟩:=(M2.out.block (w':=W2.drew.drew.drew) rfl).put Tryz.underlying103 (Nat.le_trans hc (by decide)) (f.n:Int) WN.out (val:=ptrB a) (v:=a) (ps:=[]) rfl
 have HM3:=Lib.hid hm3
 have HG3:=Lib.hid hg3
 clear hm3 hg3
 go_region
 go_wp2_with fail
 go_ret
 have R2:Ring W2.drew.drew.drew e (A++[a]) (F++[f]):=HL.out.kept fun x _=>rfl
 have nh:h∉e :: (A++[a]):=R2.off (M2.out.block (w':=W2.drew.drew.drew) rfl)
 refine ⟨rfl,R2.grown HG3.out (fun x hx e2=>nh (Option.some.inj e2 ▸ hx)),HM3.out, ?_, ?_⟩
 ·exact (show Has W2.drew.drew.drew p _ _ from P2.out).grown HG3.out (fun e2=>M2.out.notcells (Option.some.inj e2 ▸ P2.out))
 ·exact (T2.out.trans (Turn.below _ ((((Below.refl _ _).drew).drew).drew))).trans (grown_turn HG3.out (List.mem_cons_of_mem _ (List.mem_cons_self ..)))
end Go.Proofs.YtjihboddejaelaaGreat
namespace Go.Proofs.YtjihboddejaelaaGreat
open Go.RowKit
open Go.BigFrame
open Go.Maps
theorem wpList_lookup_mp (w:World) {ops:Array Oper} {rest:List Oper} {o:Oper} {a:Act} {Q:Exit→Act→World→Prop}
 (hg:o.guard=none) (m x:Operand) (hop:o.op=Op.lookup 104 m x false) (b n:Nat) (f:Int→Nat)
 (hm:a.eval m = .map (some b)) (h:MP w b n f) (k:Int) (hx:a.eval x = .int .i64 k) (hk:(Lit.int .i64 k).wf=true)
 (hK:wpList Tryz.prog ops Q rest (a.put o.dst (.int .i64 (f k))) w):wpList Tryz.prog ops Q (o :: rest) a w:=by
 obtain ⟨D,h1,h2⟩:=h
 refine wpList_lookup_own_int w hg m x _ hop 3 3 .i64 lawInt Tryz.underlying104 Tryz.underlying3 (zeroInt w) b n D hm h1 _ _ hx (keyOf_int_mk Tryz.underlying3 hk) fun c hat hwc=>?_
 have h3:=(h2 k).symm.trans hat
 have h4:((f k:Nat):Int)=c:=by cases h3;rfl
 rw [← h4]
 exact hK
set_option maxRecDepth 100000 in
set_option maxHeartbeats 3200000 in
theorem wal_Read (b:List (Option Nat)) (gd g m1 m2:Nat) (R:Rw) (n:Int) (w:World) (h:LR w b gd g m1 m2 R) (hok:R.D.ok) (hf:R.f1 n≤1000000) :
 Calls Tryz.prog 123 #[.pointer (some ⟨g,0,none⟩),.int .i64 n] w fun e w'=>e = .returned (.tuple #[.string (R.readS n),.int .i64 (R.readE n)])∧w=w':=by
 have HL:=Lib.hid h
 have x0:=h.cell0
 have x3:w.cell? ⟨g,3,none⟩=some (.map (some m1)):=h.has.cell 3
 have HM:=Lib.hid h.map1
 have OK:=Lib.hid hok
 clear h hok
 by_cases hA:0≤n∧n≤2147483647
 ·have WN:=Lib.hid (wfI (x:=n) (by omega) (by omega))
  have d1:decide (n<0)=false:=by simp;omega
  have d2:decide ((2147483648:Int)≤n)=false:=by simp;omega
  by_cases hz:R.f1 n≠0
  ·have E:=Lib.hid (show R.readS n=R.D.readS 1 (R.at1 n) 1024∧R.readE n=R.D.readE 1 (R.at1 n) 1024 from ⟨(if_pos hA).trans (if_pos hz),(if_pos hA).trans (if_pos hz)⟩)
   rw [E.out.1,E.out.2]
   unfold Rw.at1
   obtain ⟨k,hk⟩:∃ k,R.f1 n=k:=⟨_,rfl⟩
   have HK:=Lib.hid hk
   rw [hk] at hf hz ⊢
   clear E hk
   have TP:=Lib.hid (disk_Read gd R.D b 1 (64+((k:Int)-1)*1028+4) 1024 w HL.out.disk OK.out)
   obtain ⟨S,hS⟩:∃ S,R.D.readS 1 (64+((k:Int)-1)*1028+4) 1024=S:=⟨_,rfl⟩
   obtain ⟨E,hE⟩:∃ S,R.D.readE 1 (64+((k:Int)-1)*1028+4) 1024=S:=⟨_,rfl⟩
   rw [hS,hE] at TP ⊢
   have k1:(0:Int)<(k:Int):=by omega
   clear hS hE hA hz
   go_enter Tryz.func123,Tryz.ntmps123
   go_wp2_with (first
    | (at_lookup;refine wpList_lookup_mp _ rfl _ _ rfl m1 R.nf R.f1 rfl HM.out n rfl WN.out ?_;rw [HK.out])
    | (go_at_call 95;refine (TP.out).mono ?_;rintro e w1 ⟨rfl,rfl⟩))
   go_ret2
   exact ⟨rfl,rfl⟩
  ·have hz0:R.f1 n=0:=Classical.byContradiction hz
   have HK:=Lib.hid hz0
   have TS:=Lib.hid (disk_Size gd R.D b 0 w HL.out.disk OK.out)
   obtain ⟨N,hN,hNb⟩:∃ N:Nat,R.D.sizeN 0=N∧N≤67108864:=by
    unfold Dk.sizeN;split
    ·exact ⟨_,rfl,OK.out.seen 0⟩
    ·exact ⟨0,rfl,Nat.zero_le _⟩
   have wr2:wrap64 ((N:Int) / 1024)=(N:Int) / 1024:=IntWalk.wrap64_in _ (by omega)
   have TP:=Lib.hid (disk_Read gd R.D b 0 (n*1024) 1024 w HL.out.disk OK.out)
   have q1:R.readS n=if R.D.sizeE 0≠0 then ⟨#[]⟩ else if R.D.sizeN 0 / 1024≤n then ⟨#[]⟩ else R.D.readS 0 (n*1024) 1024:=(if_pos hA).trans (if_neg hz)
   have q2:R.readE n=if R.D.sizeE 0≠0 then R.D.sizeE 0 else if R.D.sizeN 0 / 1024≤n then 7 else R.D.readE 0 (n*1024) 1024:=(if_pos hA).trans (if_neg hz)
   obtain ⟨S,hS⟩:∃ S,R.D.readS 0 (n*1024) 1024=S:=⟨_,rfl⟩
   obtain ⟨E,hE⟩:∃ S,R.D.readE 0 (n*1024) 1024=S:=⟨_,rfl⟩
   obtain ⟨F,hF⟩:∃ S,R.D.sizeE 0=S:=⟨_,rfl⟩
   rw [hS,hE] at TP
   rw [hN,hF] at TS
   rw [hN,hF,hS] at q1
   rw [hN,hF,hE] at q2
   rw [q1,q2]
   have HA:=Lib.hid hA
   clear hS hE hA hz hz0 hN hF q1 q2 hNb
   by_cases hF:F≠0
   ·rw [if_pos hF,if_pos hF]
    go_enter Tryz.func123,Tryz.ntmps123
    go_wp2_with (first
     | (at_lookup;refine wpList_lookup_mp _ rfl _ _ rfl m1 R.nf R.f1 rfl HM.out n rfl WN.out ?_;rw [HK.out])
     | (go_at_call 94;refine (TS.out).mono ?_;rintro e w1 ⟨rfl,rfl⟩))
    go_ret2
    exact ⟨rfl,rfl⟩
   ·rw [if_neg hF,if_neg hF]
    have hF0:F=0:=Classical.byContradiction hF
    subst hF0
    by_cases hx:(N:Int) / 1024≤n
    ·rw [if_pos hx,if_pos hx]
     clear hF
     go_enter Tryz.func123,Tryz.ntmps123
     go_wp2_with (first
      | (at_lookup;refine wpList_lookup_mp _ rfl _ _ rfl m1 R.nf R.f1 rfl HM.out n rfl WN.out ?_;rw [HK.out])
      | (go_at_call 94;refine (TS.out).mono ?_;rintro e w1 ⟨rfl,rfl⟩))
     go_ret2
     exact ⟨rfl,rfl⟩
    ·rw [if_neg hx,if_neg hx]
     have wr1:wrap64 (n*1024)=n*1024:=IntWalk.wrap64_in _ (by have:=HA.out;omega)
     clear hF
     go_enter Tryz.func123,Tryz.ntmps123
     go_wp2_with (first
      | (at_lookup;refine wpList_lookup_mp _ rfl _ _ rfl m1 R.nf R.f1 rfl HM.out n rfl WN.out ?_;rw [HK.out])
      | (go_at_call 94;refine (TS.out).mono ?_;rintro e w1 ⟨rfl,rfl⟩) | (go_at_call 95;refine (TP.out).mono ?_;rintro e w1 ⟨rfl,rfl⟩))
     go_ret2
     exact ⟨rfl,rfl⟩
 ·have E:=Lib.hid (show R.readS n=⟨#[]⟩∧R.readE n=1 from ⟨if_neg hA,if_neg hA⟩)
  rw [E.out.1,E.out.2]
  by_cases h1:0≤n
  ·have d1:decide (n<0)=false:=by simp;omega
   have d2:decide ((2147483648:Int)≤n)=true:=by simp;omega
   clear E hA h1
   go_enter Tryz.func123,Tryz.ntmps123
   go_wp2_with fail
   go_ret2
   exact ⟨rfl,rfl⟩
  ·have d1:decide (n<0)=true:=by simp;omega
   clear E hA h1
   go_enter Tryz.func123,Tryz.ntmps123
   go_wp2_with fail
   go_ret2
   exact ⟨rfl,rfl⟩
end Go.Proofs.YtjihboddejaelaaGreat
namespace Go.Proofs.YtjihboddejaelaaGreat
open Go.RowKit
open Go.BigFrame
open Go.Maps
def Dk.calm (D:Dk):Prop:=D.down=false∧D.fails = -1
section
variable {D:Dk}
theorem Dk.calm.go (h:D.calm):¬ D.stops:=by
 unfold Dk.stops;rw [h.1,h.2];decide
theorem Dk.calm.turn (h:D.calm):D.turn.calm:=by
 unfold Dk.turn;rw [if_neg h.go]
 refine ⟨h.1, ?_⟩
 show (if 0<D.fails then D.fails-1 else D.fails) = -1
 rw [h.2];decide
theorem Dk.calm.turnE (h:D.calm):D.turnE=0:=if_neg h.go
theorem Dk.calm.change (h:D.calm) (c:Ch):(D.change c).calm:=by
 unfold Dk.change;rw [if_neg h.go]
 exact ⟨h.turn.1,h.turn.2⟩
theorem Dk.calm.sync (h:D.calm) (f:Int):(D.sync f).calm:=by
 unfold Dk.sync
 split
 ·rw [if_neg h.go];exact ⟨h.turn.1,h.turn.2⟩
 ·exact h
theorem Dk.calm.cut (h:D.calm) (f a:Int):(D.cutD f a).calm:=by
 unfold Dk.cutD
 split
 ·exact h.change _
 ·exact h
theorem Dk.calm.write (h:D.calm) (f a:Int) (s:ByteArray):(D.write f a s).calm:=by
 unfold Dk.write
 split
 ·exact h.change _
 ·exact h
theorem Fit.cut {k:Nat} (h:Fit D (k+1)) (f a:Int):Fit (D.cutD f a) k:=by
 unfold Dk.cutD
 split
 ·rename_i hf
  obtain ⟨h1,h2,h3,h4,h5,h6⟩:=hf
  exact change_fit h ⟨by show f.toNat<2;omega,by show a.toNat≤_;omega,by show a.toNat+0≤_;omega,fun _=>rfl⟩
 ·exact h.less (by omega)
theorem Fit.sync {k:Nat} (h:Fit D (k+1)) (f:Int):Fit (D.sync f) k:=by
 refine ⟨Dk.sync_ok h.ok f, ?_, ?_⟩
 ·have:=h.count;have:=turn_count D
  unfold Dk.sync;split
  ·split
   ·omega
   ·show D.turn.count+k≤_;omega
  ·omega
 ·have:=h.waits
  have h2:D.turn.waits=D.waits:=by unfold Dk.turn;split <;> rfl
  unfold Dk.sync;split
  ·split
   ·rw [h2];omega
   ·show (D.waits.filter _).length+k≤_
    have:=List.length_filter_le (fun c:Ch=>decide (c.file≠f.toNat)) D.waits
    omega
  ·omega
end
def HeldD (w0:World) (b0:List (Option Nat)) (gd:Nat) (xs:List (Nat×TypeId×Array Value)) (D:Dk) (u:World):Prop :=
 ∃ b',DP u b' gd D∧Boxes u xs∧Off xs b'∧Turn b0 b' w0 u
theorem disk_chain (fs:List (FuncId×Array Value)) (gs n:Nat) (w0:World) (b0:List (Option Nat)) (gd:Nat) (xs:List (Nat×TypeId×Array Value)) (Ds:Nat→Dk) (t:TypeId) (w:World)
 (hn:fs.length=n) (hn4:n≤4) (hgs:(gs,t,(fs.map (fun x=>Value.func (.func x.1) #[] x.2)).toArray)∈xs) (h0:HeldD w0 b0 gd xs (Ds 0) w)
 (hrun:∀ (i:Nat) k cs,fs[i]? = some (k,cs)→∀ u,(callFunc k cs).run Tryz.prog u = .ok (.enter k cs) u)
 (hstep:∀ (i:Nat) k cs,fs[i]? = some (k,cs)→∀ u b',DP u b' gd (Ds i)→Boxes u xs→Off xs b'→Calls Tryz.prog k cs u (DPost u b' gd (Ds (i+1)) (.int .i64 0))) :
 Calls Tryz.prog 116 #[.slice (some ⟨gs,0,none⟩) n n] w fun e w'=>e = .returned (.int .i64 0)∧HeldD w0 b0 gd xs (Ds n) w':=by
 refine (wal_done fs gs n w (fun i u=>i≤n∧HeldD w0 b0 gd xs (Ds i) u) (fun r u=>r=0∧HeldD w0 b0 gd xs (Ds n) u) hn hn4 ?_ hrun ?_ ?_ ⟨Nat.zero_le _,h0⟩).mono ?_
 ·rintro i u ⟨_,b',_,hx,_,_⟩ j k cs hj
  have:=(hx _ hgs).cell j
  simp only at this
  rw [this]
  simp [hj]
 ·rintro i k cs hi u ⟨hin,b',hl,hx,ho,ht⟩
  have hlt:i<n:=by
   have:=(List.getElem?_eq_some_iff.1 hi).1
   omega
  refine (hstep i k cs hi u b' hl hx ho).mono ?_
  rintro e w' ⟨rfl,b'',hl2,ht2⟩
  obtain ⟨hx2,ho2⟩:=hx.turn ht2 ho
  exact ⟨0,rfl,.inl ⟨rfl,hlt,b'',hl2,hx2,ho2,ht.trans ht2⟩⟩
 ·rintro u ⟨_,hH⟩
  exact ⟨rfl,hH⟩
 ·rintro e w' ⟨r,rfl,rfl,hH⟩
  exact ⟨rfl,hH⟩
def beginD (D:Dk) (p:Nat):Nat→Dk
 | 0=>D
 | 1=>D.cutD 1 0
 | 2=>(D.cutD 1 0).sync 1
 | 3=>((D.cutD 1 0).sync 1).write 1 0 (bsOf (markL++slotL 1 0 p))
 | _=>(((D.cutD 1 0).sync 1).write 1 0 (bsOf (markL++slotL 1 0 p))).sync 1
set_option maxRecDepth 100000 in
set_option maxHeartbeats 800000 in
theorem wal_begin1 (b:List (Option Nat)) (gd g:Nat) (D:Dk) (bl:Nat) (w:World) (h:DP w b gd D) (hg:w.cell? ⟨g,0,none⟩=some (.pointer (some ⟨gd,0,none⟩))) (hgz:g<w.heap.size) (hx:Has w bl 97 #[.pointer (some ⟨g,0,none⟩)]) (hfit:Fit D 1) (hc:D.calm) :
 Calls Tryz.prog 184 #[.pointer (some ⟨bl,0,none⟩)] w (DPost w b gd (D.cutD 1 0) (.int .i64 0)):=by
 have TP:=Lib.hid (fun b1 w1 (h1:DP w1 b1 gd D)=>disk_Cut gd D b1 1 0 w1 h1 hfit.ok (by have:=hfit.count;omega) (by have:=hfit.waits;omega))
 have hE:D.cutE 1 0=0:=(show D.cutE 1 0=D.turnE from if_pos (by decide)).trans hc.turnE
 obtain ⟨D',hD⟩:∃ x,D.cutD 1 0=x:=⟨_,rfl⟩
 rw [hE,hD] at TP
 rw [hD]
 have HL:=Lib.hid h
 have x0:=hx.cell 0
 clear hE hD h hx hfit
 go_enter Tryz.func184,Tryz.ntmps184
 go_wp2_with (go_at_call 175;(with_reducible refine (TP.out _ _ HL.out).mono ?_);rintro e w2 ⟨rfl,hd2⟩;have HD:=Lib.hid hd2;clear hd2)
 go_ret
 exact ⟨rfl,HD.out⟩
set_option maxRecDepth 100000 in
set_option maxHeartbeats 800000 in
theorem walD_begin2 (b:List (Option Nat)) (gd g:Nat) (D:Dk) (bl:Nat) (w:World) (h:DP w b gd D) (hg:w.cell? ⟨g,0,none⟩=some (.pointer (some ⟨gd,0,none⟩))) (hgz:g<w.heap.size) (hx:Has w bl 97 #[.pointer (some ⟨g,0,none⟩)]) (hfit:Fit D 1) (hc:D.calm) :
 Calls Tryz.prog 185 #[.pointer (some ⟨bl,0,none⟩)] w (DPost w b gd (D.sync 1) (.int .i64 0)):=by
 have TP:=Lib.hid (fun b1 w1 (h1:DP w1 b1 gd D)=>disk_Sync gd D b1 1 w1 h1 hfit.ok (by have:=hfit.count;omega) (by have:=hfit.waits;omega))
 have hE:D.syncE 1=0:=(show D.syncE 1=D.turnE from if_pos (by decide)).trans hc.turnE
 obtain ⟨D',hD⟩:∃ x,D.sync 1=x:=⟨_,rfl⟩
 rw [hE,hD] at TP
 rw [hD]
 have HL:=Lib.hid h
 have x0:=hx.cell 0
 clear hE hD h hx hfit
 go_enter Tryz.func185,Tryz.ntmps185
 go_wp2_with (go_at_call 119;(with_reducible refine (TP.out _ _ HL.out).mono ?_);rintro e w2 ⟨rfl,hd2⟩;have HD:=Lib.hid hd2;clear hd2)
 go_ret
 exact ⟨rfl,HD.out⟩
set_option maxRecDepth 100000 in
set_option maxHeartbeats 800000 in
theorem walD_begin4 (b:List (Option Nat)) (gd g:Nat) (D:Dk) (bl:Nat) (w:World) (h:DP w b gd D) (hg:w.cell? ⟨g,0,none⟩=some (.pointer (some ⟨gd,0,none⟩))) (hgz:g<w.heap.size) (hx:Has w bl 97 #[.pointer (some ⟨g,0,none⟩)]) (hfit:Fit D 1) (hc:D.calm) :
 Calls Tryz.prog 188 #[.pointer (some ⟨bl,0,none⟩)] w (DPost w b gd (D.sync 1) (.int .i64 0)):=by
 have TP:=Lib.hid (fun b1 w1 (h1:DP w1 b1 gd D)=>disk_Sync gd D b1 1 w1 h1 hfit.ok (by have:=hfit.count;omega) (by have:=hfit.waits;omega))
 have hE:D.syncE 1=0:=(show D.syncE 1=D.turnE from if_pos (by decide)).trans hc.turnE
 obtain ⟨D',hD⟩:∃ x,D.sync 1=x:=⟨_,rfl⟩
 rw [hE,hD] at TP
 rw [hD]
 have HL:=Lib.hid h
 have x0:=hx.cell 0
 clear hE hD h hx hfit
 go_enter Tryz.func188,Tryz.ntmps188
 go_wp2_with (go_at_call 119;(with_reducible refine (TP.out _ _ HL.out).mono ?_);rintro e w2 ⟨rfl,hd2⟩;have HD:=Lib.hid hd2;clear hd2)
 go_ret
 exact ⟨rfl,HD.out⟩
set_option maxRecDepth 100000 in
set_option maxHeartbeats 3200000 in
theorem wal_begin3 (b:List (Option Nat)) (gd g p:Nat) (D:Dk) (bl:Nat) (cs:Array Value) (w:World) (h:DP w b gd D) (hh:Has w g 181 cs) (hg:cs[0]? = some (.pointer (some ⟨gd,0,none⟩))) (hg5:cs[5]? = some (.int .i64 p)) (hx:Has w bl 97 #[.pointer (some ⟨g,0,none⟩)]) (hfit:Fit D 1) (hc:D.calm) (hp:p≤4611686018427387904) :
 Calls Tryz.prog 186 #[.pointer (some ⟨bl,0,none⟩)] w (DPost w b gd (D.write 1 0 (bsOf (markL++slotL 1 0 p))) (.int .i64 0)):=by
 have ST:=Lib.hid (wal_slotText 1 0 p (by omega) (by omega) hp)
 rw [show ((1:Nat):Int)=1 from rfl,show ((0:Nat):Int)=0 from rfl] at ST
 have TP:=Lib.hid (fun b1 w1 (h1:DP w1 b1 gd D)=>disk_Write gd D b1 1 0 (bsOf (markL++slotL 1 0 p)) w1 h1 hfit.ok (by have:=hfit.count;omega) (by have:=hfit.waits;omega) (by rw [bsOf_size,List.length_append,slotL_len];decide))
 have hE:D.writeE 1 0 (bsOf (markL++slotL 1 0 p))=0:=(show _=D.turnE from if_pos (by rw [bsOf_size,List.length_append,slotL_len];decide)).trans hc.turnE
 rw [hE,← bsOf_append,show bsOf markL=⟨#[114,101,108,115,116,111,114,101,32,108,111,103,32,48,48,49]⟩ from rfl] at TP
 rw [← bsOf_append,show bsOf markL=⟨#[114,101,108,115,116,111,114,101,32,108,111,103,32,48,48,49]⟩ from rfl]
 obtain ⟨S,hS⟩:∃ S,bsOf (slotL 1 0 p)=S:=⟨_,rfl⟩
 have hz:S.size=24:=by rw [← hS,bsOf_size,slotL_len]
 rw [hS] at ST TP ⊢
 obtain ⟨D',hD⟩:∃ x,D.write 1 0 (⟨#[114,101,108,115,116,111,114,101,32,108,111,103,32,48,48,49]⟩++S)=x:=⟨_,rfl⟩
 rw [hD] at TP ⊢
 have HL:=Lib.hid (h.below (Below.refl _ _).drew)
 have HH:=Lib.hid (hh.belowS (Below.refl _ _).drew)
 have HX:=Lib.hid (hx.belowS (Below.refl _ _).drew)
 have HB:=Lib.hid ((Below.refl w.heap.size w).drew)
 have x0:=hx.cell 0
 have x1:=(hh.cell 0).trans hg
 have x5:=(hh.cell 5).trans hg5
 have gz:=hh.lt
 have G0:=Lib.hid hg;have G5:=Lib.hid hg5
 clear hS hE hD h hx hfit hg hg5 hh
 go_enter Tryz.func186,Tryz.ntmps186
 generalize hMK:(⟨#[114,101,108,115,116,111,114,101,32,108,111,103,32,48,48,49]⟩:ByteArray)=MK at *
 have mz:MK.size=16:=by rw [← hMK];rfl
 clear hMK
 go_wp2_with fail
 go_region_with
  (first | (go_at_call 187;(with_reducible refine (ST.out _).mono ?_);rintro e w1 ⟨rfl,hb1⟩;have H1:=Lib.hid (HL.out.below hb1);have HB1:=Lib.hid (bel_step HB.out hb1 HB.out.size);have y0:=(HX.out.belowS hb1).cell 0;have y1:=((HH.out.belowS hb1).cell 0).trans G0.out;have yz:=(HH.out.belowS hb1).lt) | (go_at_call 172;(with_reducible refine (TP.out _ _ H1.out).mono ?_);rintro e w2 ⟨rfl,b2,hd2,ht2⟩;have HD:=Lib.hid hd2;have HT:=Lib.hid ht2;clear hd2 ht2))
 all_goals
  go_wp2_with fail
  go_ret
  exact ⟨rfl,b2,HD.out,(Turn.below b HB1.out).trans HT.out⟩
end Go.Proofs.YtjihboddejaelaaGreat
