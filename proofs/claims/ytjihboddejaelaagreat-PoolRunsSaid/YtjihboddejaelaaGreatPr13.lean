/-
  page.Open.
-/
import Derived.Test.YtjihboddejaelaaGreatPr8
import Derived.Deep.RegionLaw
import Derived.Deep.AppendLies
import Derived.Deep.DrawnRows
import Derived.Test.YtjihboddejaelaaGreatPr12
import Derived.Test.YtjihboddejaelaaGreatPr5
set_option linter.unusedVariables false
set_option linter.unusedSimpArgs false
namespace Go.Proofs.YtjihboddejaelaaGreat
open Go.RowKit
open Go.BigFrame
attribute [local go_sem] OpGood goodUpon fillA Act.put
def PgOpenPost (w:World) (o:Option Pg) (bad:Value) (e:Ending) (w':World):Prop :=
 match o with
 | none=>e = .returned (.tuple #[.agg #[.int .i64 0,.int .i64 0,.slice none 0 0],bad])∧Below w.heap.size w w'
 | some p=>∃ A c,e = .returned (.tuple #[.agg #[.int .i64 p.1,.int .i64 p.2.1,.slice A p.2.2.length c],.int .i64 0])∧SS w' A p.2.2.length p.2.2∧Below w.heap.size w w'
theorem openP_size {s:ByteArray} (h:s.size≠1024):openP s=none:=by unfold openP;rw [if_pos (.inl h)]
theorem openP_sum {s:ByteArray} (h:at32N s.data.toList 0≠crcN (s.data.toList.drop 4)):openP s=none:=by unfold openP;rw [if_pos (.inr (.inl h))]
theorem openP_count {s:ByteArray} (h:1024<12+2*at16N s.data.toList 6):openP s=none:=by unfold openP;rw [if_pos (.inr (.inr h))]
theorem openP_go {s:ByteArray} (h1:s.size=1024) (h2:at32N s.data.toList 0=crcN (s.data.toList.drop 4)) (h3:¬ 1024<12+2*at16N s.data.toList 6):openP s=openN s (at16N s.data.toList 6):=by
 unfold openP;rw [if_neg];rintro (h | h | h);exact h h1;exact h h2;exact h3 h
theorem extract_drop4 {s:ByteArray} (h:s.size=1024):(s.extract 4 1024).data.toList=s.data.toList.drop 4:=by
 rw [Lib.extract_data,List.take_of_length_le (by simp;omega)]
theorem open_none {w w':World} {o:Option Pg} {bad:Value} (h:o=none) (hb:Below w.heap.size w w'):PgOpenPost w o bad (.returned (.tuple #[.agg #[.int .i64 0,.int .i64 0,.slice none 0 0],bad])) w':=by
 subst h;exact ⟨rfl,hb⟩
theorem open_some {w w':World} {o:Option Pg} {bad:Value} {k l n c:Nat} {cs:List ByteArray} {A:Option Addr} (h:o=some (k,l,cs)) (hn:cs.length=n) (hs:SS w' A n cs) (hb:Below w.heap.size w w'):PgOpenPost w o bad (.returned (.tuple #[.agg #[.int .i64 k,.int .i64 l,.slice A n c],.int .i64 0])) w':=by
 subst h hn;exact ⟨A,c,rfl,hs,hb⟩
theorem readGo_none {s:ByteArray} {i:Nat} (h:readGo s i=none):∀ n,i≤n→readGo s n=none:=by
 intro n hn
 induction hn with
 | refl=>exact h
 | @step m _ ih=>rw [readGo,ih];rfl
theorem readGo_spec {s:ByteArray} (hs:s.size≤1048576):∀ {i:Nat} {cs:List ByteArray},readGo s i=some cs→cs.length=i∧usedN cs≤2000*i
 | 0,cs,h=>by injection h with h;subst h;exact ⟨rfl,by simp [usedN]⟩
 | i+1,cs,h=>by
   rw [readGo] at h
   obtain ⟨c0,h1,h2⟩:=Option.bind_eq_some_iff.1 h
   obtain ⟨l1,l2⟩:=readGo_spec hs h1
   split at h2
   ·cases h2
   ·rename_i hc
    injection h2 with h2
    subst h2
    refine ⟨by simp [l1], ?_⟩
    rw [usedN_snoc]
    simp only [ByteArray.size_extract]
    omega
theorem readGo_stop {s:ByteArray} {i:Nat} {cs:List ByteArray} {a:Nat} (h:readGo s i=some cs) (ha:at16N s.data.toList (12+2*i)=a) (hc:1024<a+2∨1024<a+2+at16N s.data.toList a):readGo s (i+1)=none:=by
 subst ha
 rw [readGo,h,Option.bind_some,if_pos hc]
theorem readGo_more {s:ByteArray} {i:Nat} {cs:List ByteArray} {a m:Nat} (h:readGo s i=some cs) (ha:at16N s.data.toList (12+2*i)=a) (hm:at16N s.data.toList a=m) (h1:¬ 1024<a+2) (h2:¬ 1024<a+2+m):readGo s (i+1)=some (cs++[s.extract (a+2) (a+2+m)]):=by
 subst ha hm
 rw [readGo,h,Option.bind_some,if_neg (by rintro (h | h);exact h1 h;exact h2 h)]
def strs (l:List ByteArray):List Value:=l.map Value.string
theorem infoString:(Tryz.prog.info? 9).map (fun i=>(i.zero,i.size,i.bytes))=some (some (.string ⟨#[]⟩),1,16):=by kernel_rfl
theorem SS.of_own {w:World} {base:Nat} {e:TypeId} {A:Option Addr} {n c:Nat} {l:List ByteArray} (h:w.ownsRow base e 1 (.slice A n c) n (strs l)):SS w A n l:=by
 have hl:l.length=n:=by have:=h.1;simp [strs] at this;exact this
 refine ⟨hl,fun hn=>?_⟩
 rcases h.2 with ⟨h0,h1⟩ | ⟨g,cap,cur,hv,hb,hgg,hnc,_⟩
 ·omega
 ·cases hv
  refine ⟨g,0,rfl,(Array.getElem?_eq_some_iff.1 hgg).1,fun i u hu=>?_⟩
  have:=h.cells (g:=g) rfl i (.string u) (by simp [strs,hu])
  rw [addr_add] at this;exact this
theorem own_below {w w':World} {base:Nat} {e:TypeId} {size:Nat} {v:Value} {n:Nat} {xs:List Value} (h:w.ownsRow base e size v n xs) (hb:Below w.heap.size w w'):w'.ownsRow base e size v n xs:=by
 refine ⟨h.1, ?_⟩
 rcases h.2 with h | ⟨g,cap,cur,hv,hbg,hg,r⟩
 ·exact .inl h
 ·exact .inr ⟨g,cap,cur,hv,hbg,(hb.block g (Array.getElem?_eq_some_iff.1 hg).1).trans hg,r⟩
theorem own_ne {w:World} {base:Nat} {e:TypeId} {size:Nat} {v:Value} {n:Nat} {xs:List Value} (h:w.ownsRow base e size v n xs) {g:Nat} (hg:g<base):some g≠v.ownBlock:=fun e=>by
 have:=(h.lt g e.symm).1;omega
theorem ba_ne {t s:ByteArray} (h:¬ t=s):(t.toList == s.toList)=false:=by
 rw [Lib.toList_data,Lib.toList_data,beq_eq_false_iff_ne]
 intro e
 exact h (ByteArray.ext (Array.toList_inj.1 e))
theorem SS.far {w:World} {A:Option Addr} {n:Nat} {l:List ByteArray} (h:SS w A n l) {p:Addr} (hp:∀ a,A=some a→a.block≠p.block) (u:Value):SS (w.setCell p u) A n l:=by
 refine ⟨h.1,fun hn=>?_⟩
 obtain ⟨g,o,e,hg,hc⟩:=h.2 hn
 refine ⟨g,o,e,by simpa using hg,fun i v hv=>(World.cell?_of_block (a:=⟨g,o+i,none⟩) (Below.heap_setCell w p u g (hp _ e))).trans (hc i v hv)⟩
theorem below_mkP (w:World) (o:Obj):Below w.heap.size w (w.alloc o):=(Below.refl _ _).alloc (Nat.le_refl _) _
def OL (w:World) (s:ByteArray) (g k l i:Nat) (wr:World):Prop :=
 ∃ cs A c,readGo s i=some cs∧cs.length=i∧usedN cs≤2000*i∧wr.ownsRow (g+1) 9 1 (.slice A i c) i (strs cs)∧Has wr g 114 #[.int .i64 k,.int .i64 l,.slice A i c] ∧
   Has wr w.heap.size 114 #[.int .i64 0,.int .i64 0,.slice none 0 0]∧Below w.heap.size w wr∧w.heap.size+1≤g
set_option maxRecDepth 100000 in
set_option maxHeartbeats 6400000 in
theorem page_Open (s:ByteArray) (hs:s.size≤1048576) (w:World):Calls Tryz.prog 124 #[.string s] w (PgOpenPost w (openP s) (.int .i64 4)):=by
 have HR0:=Lib.hid (Has.new w 114 #[.int .i64 0,.int .i64 0,.slice none 0 0])
 have HB0:=Lib.hid (below_mkP w (.cells #[.int .i64 0,.int .i64 0,.slice none 0 0] 114))
 by_cases h1:s.size=1024
 ·obtain ⟨x,hx⟩:∃ x,at32N s.data.toList 0=x:=⟨_,rfl⟩
  obtain ⟨y,hy⟩:∃ y,crcN (s.data.toList.drop 4)=y:=⟨_,rfl⟩
  have lx:=at32N_lt s.data.toList 0
  have ly:=crcN_lt (s.data.toList.drop 4)
  have T0:=Lib.hid (fun w1=>page_at32 s 0 (by omega) hs w1)
  have S0:=(fun w1=>page_Sum (s.extract 4 1024) w1 (by simp;omega))
  rw [extract_drop4 h1,hy] at S0
  have HS0:=Lib.hid S0
  clear S0
  rw [hx] at lx T0
  rw [hy] at ly
  have w1:IntKind.u32.wrap (x:Int)=(x:Int):=by rw [IntKind.wrap_u32'];omega
  have szs:((s.size:Nat):Int)=1024:=by omega
  by_cases h2:x=y
  ·have g2:((x:Int) != (y:Int))=false:=by rw [h2];simp
   have H1:=Lib.hid h1;have H2:=Lib.hid (show at32N s.data.toList 0=crcN (s.data.toList.drop 4) by rw [hx,hy,h2])
   clear hx hy h2
   have s4:4<s.size:=by omega
   have s4':(4:Int)<(s.size:Int):=by omega
   have i4:=getD_byte s 4 s4
   obtain ⟨k,hk⟩:∃ k,(s.data.toList.getD 4 0).toNat=k:=⟨_,rfl⟩
   have bk:=byte_lt (s.data.toList.getD 4 0)
   rw [hk] at bk
   rw [i4] at hk
   have w4:IntKind.i64.wrap (s[4].toNat:Int)=(k:Int):=by rw [hk];exact IntWalk.i64_in _ ⟨by omega,by omega⟩
   have w4':wrap64 (s[4].toNat:Int)=(k:Int):=by rw [hk];unfold wrap64;omega
   have HK:Hid ((s.data.toList.getD 4 0).toNat=k):=by rw [i4];exact hk
   clear i4
   obtain ⟨l,hl⟩:∃ l,at32N s.data.toList 8=l:=⟨_,rfl⟩
   have ll:=at32N_lt s.data.toList 8
   have T8:=Lib.hid (fun w1=>page_at32 s 8 (by omega) hs w1)
   rw [hl] at ll T8
   obtain ⟨n,hn⟩:∃ n,at16N s.data.toList 6=n:=⟨_,rfl⟩
   have ln:=at16N_lt s.data.toList 6
   have T6:=Lib.hid (fun w1=>page_at16 s 6 (by omega) hs w1)
   rw [hn] at ln T6
   have HL:=Lib.hid hl;have HN:=Lib.hid hn;have HKK:=Lib.hid hk
   clear hl hn hk
   go_enter Tryz.func124,Tryz.ntmps124
   go_wp2_with fail
   refine wp_region_cls (_) (by kernel_rfl) (by kernel_rfl) (Cls.start _) ?_
   repeat
    first
     | go_big_quiet_skip
     | (go_big_quiet_want;(first | go_big_quiet_op | go_simp);first | go_big_quiet_on | (apply Exists.intro;refine ⟨fun w' hw'=>?_, ?_⟩;(·(first | (with_reducible exact rfl) | (first | (go_at_call 195;refine (T0.out _).mono ?_;rintro e w1 ⟨rfl,hb⟩;exact ⟨rfl,Cls.step hw' hb⟩) | (go_at_call 194;refine (HS0.out _).mono ?_;rintro e w1 ⟨rfl,rfl⟩;exact ⟨rfl,hw'⟩)) | (obtain ⟨hc,hf⟩:=hw'.facts;go_simp;first | done | (with_reducible exact rfl) | (with_reducible exact ⟨rfl,rfl⟩))));go_big_quiet_on))
   refine wpQuiet_nil ?_
   intro wq hq
   have HR1:=Lib.hid (HR0.out.belowS hq.bel)
   have HB1:=Lib.hid (bel_step HB0.out hq.bel HB0.out.size)
   clear hq
   go_wp2_with fail
   refine wp_region_inv 7 (Cls (wq)) (prP [fun u _=>u = .string s,fun u _=>u = .int .u8 s[4].toNat,fun u _=>u = .int .i64 k,fun u _=>u = .string s,fun u _=>u = .int .i64 l,fun u _=>u = .agg #[.int .i64 k,.int .i64 l,.slice none 0 0],fun u w1=>∃ g,u = .pointer (some ⟨g,0,none⟩)∧Has w1 g 114 #[.int .i64 0,.int .i64 0,.slice none 0 0]∧w.heap.size+1≤g]) (by kernel_rfl) (by kernel_rfl) (by kernel_rfl) (fun _ _ hC hb=>Cls.step hC hb) ?hst (Cls.start _) ?hops ?hend
   case hst=>exact prP_stable _ ⟨stab_eq _,stab_eq _,stab_eq _,stab_eq _,stab_eq _,stab_eq _,fun u w1 w2 hb ⟨g,e,h,hg⟩=>⟨g,e,h.belowS hb,hg⟩,trivial⟩
   case hops =>
    intro us wx hus hC
    obtain ⟨u0,u1,u2,u3,u4,u5,u6,rfl⟩:∃ u0 u1 u2 u3 u4 u5 u6,us=[u0,u1,u2,u3,u4,u5,u6]:=by
     match us,hus with
     | [u0,u1,u2,u3,u4,u5,u6],_=>exact ⟨u0,u1,u2,u3,u4,u5,u6,rfl⟩
    clear hus
    simp only [fillA,Act.put,List.take_succ_cons,List.take_zero,List.setIfInBounds_toArray,List.set_cons_zero,List.set_cons_succ]
    refine ⟨fun h=>?_,fun h=>?_,fun h=>?_,fun h=>?_,fun h=>?_,fun h=>?_,fun h=>?_,trivial⟩
    ·(clear h;refine good_plain rfl ?_;go_simp;exact ⟨Below.refl _ _,rfl⟩)
    ·obtain rfl:=h 0 rfl
     (clear h;refine good_plain rfl ?_;go_simp;exact ⟨Below.refl _ _,rfl⟩)
    ·obtain rfl:=h 1 rfl
     (clear h;refine good_plain rfl ?_;go_simp;exact ⟨Below.refl _ _,rfl⟩)
    ·(clear h;refine good_plain rfl ?_;go_simp;exact ⟨Below.refl _ _,rfl⟩)
    ·obtain rfl:=h 3 rfl
     (clear h;refine good_plain rfl ?_;go_simp;refine (T8.out _).mono ?_;rintro e w1 ⟨rfl,hb⟩;exact ⟨_,rfl,hb,rfl⟩)
    ·obtain rfl:=h 2 rfl
     obtain rfl:=h 4 rfl
     (clear h;refine good_plain rfl ?_;go_simp;exact ⟨Below.refl _ _,rfl⟩)
    ·have hle:=hC.bel.size
     have hlt:=HR1.out.lt
     clear h;refine good_plain rfl ?_;go_simp;exact ⟨below_mkP _ _,_,rfl,Has.new _ _ _,by omega⟩
   case hend =>
    intro us wx hus hC
    obtain ⟨u0,u1,u2,u3,u4,u5,u6,rfl⟩:∃ u0 u1 u2 u3 u4 u5 u6,us=[u0,u1,u2,u3,u4,u5,u6]:=by
     match us,hus with
     | [u0,u1,u2,u3,u4,u5,u6],_=>exact ⟨u0,u1,u2,u3,u4,u5,u6,rfl⟩
    clear hus
    intro hall
    obtain ⟨h0,h1,h2,h3,h4,h5,h6,_⟩:=hall
    obtain rfl:=h5
    obtain ⟨g,rfl,hG,hg1⟩:=h6
    have HR2:=Lib.hid (HR1.out.belowS hC.bel)
    have HB2:=Lib.hid (bel_step HB1.out hC.bel HB1.out.size)
    have HG2:=Lib.hid hG
    have gf:=hG.frozen
    obtain ⟨g0,g1,g3⟩:=hG.cells3
    have gz:=hG.lt
    have hgne:g≠w.heap.size:=by omega
    have HR3:=Lib.hid (HR2.out.far3 (g':=g) (x:=.int .i64 k) (y:=.int .i64 l) (z:=.slice none 0 0) (Ne.symm hgne))
    have HG3:=Lib.hid (hG.set3 (x:=.int .i64 k) (y:=.int .i64 l) (z:=.slice none 0 0))
    have HB3:=Lib.hid (((HB2.out.setCell (p:=⟨g,0,none⟩) (by simp;omega) (.int .i64 k)).setCell (p:=⟨g,1,none⟩) (by simp;omega) (.int .i64 l)).setCell (p:=⟨g,2,none⟩) (by simp;omega) (.slice none 0 0))
    clear h0 h1 h2 h3 h4 hC hG HR1 HB1 T8 T0 HS0 HR2 HB2 HG2
    by_cases h3:1024<12+2*n
    ·have ANS:=Lib.hid (openP_count (s:=s) (by rw [HN.out];exact h3))
     go_wp2_with (go_at_call 196;refine (T6.out _).mono ?_;rintro e w1 ⟨rfl,hb⟩;have HR4:=HR3.out.belowS hb;obtain ⟨r0,r1,r2⟩:=HR4.cells3;have rf:=HR4.frozen;have rz:=HR4.lt;have HB4:=Lib.hid (bel_step HB3.out hb HB3.out.size);clear HR4)
     refine bodyPost_ret (v:=.tuple #[.agg #[.int .i64 0,.int .i64 0,.slice none 0 0],.int .i64 4]) (by simp [results,Tryz.results124,go_sem, *]) rfl ?_
     exact open_none ANS.out (((HB4.out.setCell (by simp) _).setCell (by simp) _).setCell (by simp) _)
    ·have HGO:Hid (openP s=openN s n):=by
      have:=openP_go H1.out H2.out (by rw [HN.out];exact h3)
      rw [HN.out] at this;exact this
     go_wp2_with (go_at_call 196;refine (T6.out _).mono ?_;rintro e w1 ⟨rfl,hb⟩;have HR4:=Lib.hid (HR3.out.belowS hb);have HG4:=Lib.hid (HG3.out.belowS hb);have HB4:=Lib.hid (bel_step HB3.out hb HB3.out.size))
     clear g0 g1 g3 gf gz hb
     go_loopw [37] (fun v37 wr=>∃ i:Nat,i≤n∧v37 = .int .i64 i∧OL w s g k l i wr) (fun v37 _=>n-(intOf v37).toNat)
     case atStart=>exact ⟨0,Nat.zero_le _,rfl,[],none,0,rfl,rfl,by simp [usedN],World.ownsRow_nil _ _ _ _,HG4.out,HR4.out,HB4.out,hg1⟩
     case round =>
      clear HR4 HG4 HB4 HR3 HG3 HB3
      obtain ⟨i,hi,rfl,cs,A,c,hrd,hlen,hus,hown,hG,hR,hbel,_⟩:=hrel
      have HRD:=Lib.hid hrd;have HLEN:=Lib.hid hlen;have HUS:=Lib.hid hus;have HO:=Lib.hid hown;have HG:=Lib.hid hG;have HR:=Lib.hid hR;have HB:=Lib.hid hbel
      clear hrd hlen hus hown hG hR hbel
      by_cases hin:i<n
      ·obtain ⟨a,ha⟩:∃ a,at16N s.data.toList (12+2*i)=a:=⟨_,rfl⟩
       have la:=at16N_lt s.data.toList (12+2*i)
       have T1:=(fun w1=>page_at16 s (12+2*i) (by omega) hs w1)
       rw [ha] at la T1
       rw [show ((12+2*i:Nat):Int)=12+2*(i:Int) by omega] at T1
       have HT1:=Lib.hid T1;have HA:=Lib.hid ha
       clear T1 ha
       by_cases ha1:1024<a+2
       ·have ANS:Hid (openP s=none):=by
         rw [HGO.out];unfold openN;rw [readGo_none (readGo_stop HRD.out HA.out (.inl ha1)) n hin];exact Lib.hid rfl
        go_wp2_with (go_at_call 196;refine (HT1.out _).mono ?_;rintro e w1 ⟨rfl,hb⟩;have HR5:=HR.out.belowS hb;obtain ⟨r0,r1,r2⟩:=HR5.cells3;have rf:=HR5.frozen;have rz:=HR5.lt;have HB5:=Lib.hid (bel_step HB.out hb HB.out.size);clear HR5)
        refine bodyPost_ret (v:=.tuple #[.agg #[.int .i64 0,.int .i64 0,.slice none 0 0],.int .i64 4]) (by simp [results,Tryz.results124,go_sem, *]) rfl ?_
        exact open_none ANS.out (((HB5.out.setCell (by simp) _).setCell (by simp) _).setCell (by simp) _)
       ·obtain ⟨m,hm⟩:∃ m,at16N s.data.toList a=m:=⟨_,rfl⟩
        have lm:=at16N_lt s.data.toList a
        have T2:=(fun w1=>page_at16 s a (by omega) hs w1)
        rw [hm] at lm T2
        have HT2:=Lib.hid T2;have HM:=Lib.hid hm
        clear T2 hm
        by_cases ha2:1024<a+2+m
        ·have ANS:Hid (openP s=none):=by
          rw [HGO.out];unfold openN;rw [readGo_none (readGo_stop HRD.out HA.out (.inr (by rw [HM.out];exact ha2))) n hin];exact Lib.hid rfl
         go_wp2_with (first | (go_at_call 196;(with_reducible refine (HT1.out _).mono ?_);rintro e w1 ⟨rfl,hb⟩;have HR5:=Lib.hid (HR.out.belowS hb);have HB5:=Lib.hid (bel_step HB.out hb HB.out.size)) | (go_at_call 196;(with_reducible refine (HT2.out _).mono ?_);rintro e w2 ⟨rfl,hb2⟩;have HR6:=HR5.out.belowS hb2;obtain ⟨r0,r1,r2⟩:=HR6.cells3;have rf:=HR6.frozen;have rz:=HR6.lt;have HB6:=Lib.hid (bel_step HB5.out hb2 HB5.out.size);clear HR6))
         refine bodyPost_ret (v:=.tuple #[.agg #[.int .i64 0,.int .i64 0,.slice none 0 0],.int .i64 4]) (by simp [results,Tryz.results124,go_sem, *]) rfl ?_
         exact open_none ANS.out (((HB6.out.setCell (by simp) _).setCell (by simp) _).setCell (by simp) _)
        ·have RD:=Lib.hid (readGo_more HRD.out HA.out HM.out ha1 ha2)
         go_wp2_with (first | (go_at_call 196;(with_reducible refine (HT1.out _).mono ?_);rintro e w1 ⟨rfl,hb⟩;have HR5:=Lib.hid (HR.out.belowS hb);have HB5:=Lib.hid (bel_step HB.out hb HB.out.size);have HG5:=Lib.hid (HG.out.belowS hb)) | (go_at_call 196;(with_reducible refine (HT2.out _).mono ?_);rintro e w2 ⟨rfl,hb2⟩;have HR6:=Lib.hid (HR5.out.belowS hb2);have HG6:=Lib.hid (HG5.out.belowS hb2);have HB6:=Lib.hid (bel_step HB5.out hb2 HB5.out.size)))
         have HO6:=Lib.hid (own_below (own_below HO.out hb) hb2)
         obtain ⟨i0,hi0,hz0,hz1,hz2⟩:=info_parts infoString
         obtain ⟨g0,g1,g3⟩:=HG6.out.cells3
         have gf:=HG6.out.frozen
         have gz:=HG6.out.lt
         have hgne:some g≠Value.ownBlock (.slice A i c):=own_ne HO.out (by omega)
         obtain ⟨p,hp⟩:∃ p,a+2=p:=⟨_,rfl⟩
         obtain ⟨q,hq⟩:∃ q,p+m=q:=⟨_,rfl⟩
         rw [hp,hq] at RD
         have p1:(a:Int)+2=(p:Int):=by omega
         have p2:(p:Int)+(m:Int)=(q:Int):=by omega
         have p3:IntKind.i64.wrap (p:Int)=(p:Int):=IntWalk.i64_in _ ⟨by omega,by omega⟩
         have p4:IntKind.i64.wrap (q:Int)=(q:Int):=IntWalk.i64_in _ ⟨by omega,by omega⟩
         have p5:(p:Int)≤(q:Int):=by omega
         have p6:(q:Int)≤1024:=by omega
         have p7:p≤q:=by omega
         have p8:q≤s.size:=by omega
         go_region_law
          (first
            | (go_simp;go_at_call 196;(with_reducible refine (HT2.out _).mono ?_);rintro e w3 ⟨rfl,hb3⟩;have hz3:w2.heap.size≤w3.heap.size:=hb3.size;have HG7:=HG6.out.drew.belowS hb3;have gf7:=HG7.frozen;have gc7:=HG7.cells3.2.2;have gz7:=HG7.lt;have HO7:=own_below HO6.out.drew hb3)
            | (refine step_append_lies _ (by rfl) _ _ _ (by rfl) (g+1) 9 i0 _ 1 16 Tryz.underlying44 hi0 hz0 hz1 hz2 rfl (by omega) (.slice A i c) i (strs cs) (by rfl) (HO7.alloc _) _ 1 1 [.string (s.extract p q)] (by rfl) (by rfl) (World.news_of_block (heap_alloc_new _ _)) (by simp [Value.oneCell']) (by omega) (by simp only [maxLen];omega) (by omega) (by simp;omega) _ rfl ?_;intro gg cap w5 hown5 hgrow hat hlt;have HG5x:=(HG7.alloc _).grown hgrow hgne;have gf5:=HG5x.frozen;have gc5:=HG5x.cells3.2.2))
         all_goals
          have HOWN:=Lib.hid hown5
          have HGN:=Lib.hid (HG5x.set 2 (.slice (some ⟨gg,0,none⟩) (i+1) cap))
          have HRN:=Lib.hid ((((HR6.out.drew.belowS hb3).alloc (.cells #[.string (s.extract p q)] 9)).grown hgrow (own_ne HO.out (by omega))).far (p:=⟨g,2,none⟩) (by simp;omega) (.slice (some ⟨gg,0,none⟩) (i+1) cap))
          have HBN:=Lib.hid ((((bel_step HB6.out.drew hb3 HB6.out.size).alloc (Nat.le_trans HB6.out.size hz3) (.cells #[.string (s.extract p q)] 9)).grown hgrow (Nat.le_trans (Nat.le_trans HB6.out.size hz3) (by simp)) (fun k hk=>Nat.le_trans (by omega) (HO.out.lt k hk).1)).setCell (p:=⟨g,2,none⟩) (by simp;omega) (.slice (some ⟨gg,0,none⟩) (i+1) cap))
          clear hown5 hgrow HG5x HG7 HO7 hat hlt hb3 gf5 gc5 gc7 gf7
          go_wp2_with fail
          go_roundw
          case rel =>
           refine ⟨i+1,by omega,by simp,cs++[s.extract p q],some ⟨gg,0,none⟩,cap,RD.out,by simp [HLEN.out],(readGo_spec hs RD.out).2, ?_,HGN.out,HRN.out,HBN.out,by omega⟩
           rw [show strs (cs++[s.extract p q])=strs cs++[.string (s.extract p q)] by simp [strs]]
           exact ownsRow_setCell_below HOWN.out (by simp) _
          case measure=>simp [intOf];omega
      ·obtain rfl:n=i:=by omega
       have SSW:=SS.of_own HO.out
       have TS:=page_Seal (k:Int) (l:Int) A n c cs wr SSW (by omega) (by have:=HUS.out;omega)
       obtain ⟨g0,g1,g3⟩:=HG.out.cells3
       have gf:=HG.out.frozen
       have gz:=HG.out.lt
       have FIN:Hid (openP s=fin s k l cs):=by
        rw [HGO.out];unfold openN;rw [HRD.out,Option.bind_some,HL.out];congr 1
       obtain ⟨e,he⟩:∃ e,sealE (k:Int) (l:Int) cs=e:=⟨_,rfl⟩
       obtain ⟨t,ht⟩:∃ t,sealS (k:Int) (l:Int) cs=t:=⟨_,rfl⟩
       unfold fin at FIN
       rw [he,ht] at TS FIN
       have TS:=Lib.hid TS
       clear he ht
       by_cases e0:e=0
       ·subst e0
        by_cases ts:t=s
        ·subst ts
         have ANS:Hid (openP t=some (k,l,cs)):=by rw [FIN.out,if_pos ⟨rfl,rfl⟩];exact Lib.hid rfl
         go_wp2_with (go_at_call 122;refine TS.out.mono ?_;rintro e w1 ⟨rfl,hb⟩;have HR5:=HR.out.belowS hb;have HG5:=HG.out.belowS hb;obtain ⟨r0,r1,r2⟩:=HR5.cells3;have rf:=HR5.frozen;have rz:=HR5.lt;obtain ⟨q0,q1,q2⟩:=HG5.cells3;have qz:=HG5.lt;have HB5:=Lib.hid (bel_step HB.out hb HB.out.size);have HS5:=Lib.hid (SSW.keep hb);clear HR5 HG5)
         refine bodyPost_ret (v:=.tuple #[.agg #[.int .i64 k,.int .i64 l,.slice A n c],.int .i64 0]) (by simp [results,Tryz.results124,go_sem, *]) rfl ?_
         have far:∀ o a,A=some a→a.block≠(⟨w.heap.size,o,none⟩:Addr).block:=fun o a e=>by subst e;have:=(HO.out.lt a.block rfl).1;simp;omega
         exact open_some ANS.out HLEN.out (((HS5.out.far (far 0) _).far (far 1) _).far (far 2) _) (((HB5.out.setCell (by simp) _).setCell (by simp) _).setCell (by simp) _)
        ·have ANS:Hid (openP s=none):=by rw [FIN.out,if_neg (fun h=>ts h.2)];exact Lib.hid rfl
         have g6:=ba_ne ts
         go_wp2_with (go_at_call 122;refine TS.out.mono ?_;rintro e w1 ⟨rfl,hb⟩;have HR5:=HR.out.belowS hb;obtain ⟨r0,r1,r2⟩:=HR5.cells3;have rf:=HR5.frozen;have rz:=HR5.lt;have HB5:=Lib.hid (bel_step HB.out hb HB.out.size);clear HR5)
         refine bodyPost_ret (v:=.tuple #[.agg #[.int .i64 0,.int .i64 0,.slice none 0 0],.int .i64 4]) (by simp [results,Tryz.results124,go_sem, *]) rfl ?_
         exact open_none ANS.out (((HB5.out.setCell (by simp) _).setCell (by simp) _).setCell (by simp) _)
       ·have ANS:Hid (openP s=none):=by rw [FIN.out,if_neg (fun h=>e0 h.1)];exact Lib.hid rfl
        have g5:(e != (0:Int))=true:=by simp [e0]
        go_wp2_with (go_at_call 122;refine TS.out.mono ?_;rintro e w1 ⟨rfl,hb⟩;have HR5:=HR.out.belowS hb;obtain ⟨r0,r1,r2⟩:=HR5.cells3;have rf:=HR5.frozen;have rz:=HR5.lt;have HB5:=Lib.hid (bel_step HB.out hb HB.out.size);clear HR5)
        refine bodyPost_ret (v:=.tuple #[.agg #[.int .i64 0,.int .i64 0,.slice none 0 0],.int .i64 4]) (by simp [results,Tryz.results124,go_sem, *]) rfl ?_
        exact open_none ANS.out (((HB5.out.setCell (by simp) _).setCell (by simp) _).setCell (by simp) _)
  ·have ANS:=Lib.hid (openP_sum (s:=s) (by rw [hx,hy];exact h2))
   have g2:((x:Int) != (y:Int))=true:=by simp;omega
   clear hx hy
   obtain ⟨r0,r1,r2⟩:=HR0.out.cells3
   go_enter Tryz.func124,Tryz.ntmps124
   go_wp2_with fail
   refine wp_region_cls (_) (by kernel_rfl) (by kernel_rfl) (Cls.start _) ?_
   repeat
    first
     | go_big_quiet_skip
     | (go_big_quiet_want;(first | go_big_quiet_op | go_simp);first | go_big_quiet_on | (apply Exists.intro;refine ⟨fun w' hw'=>?_, ?_⟩;(·(first | (with_reducible exact rfl) | (first | (go_at_call 195;refine (T0.out _).mono ?_;rintro e w1 ⟨rfl,hb⟩;exact ⟨rfl,Cls.step hw' hb⟩) | (go_at_call 194;refine (HS0.out _).mono ?_;rintro e w1 ⟨rfl,rfl⟩;exact ⟨rfl,hw'⟩)) | (obtain ⟨hc,hf⟩:=hw'.facts;go_simp;first | done | (with_reducible exact rfl) | (with_reducible exact ⟨rfl,rfl⟩))));go_big_quiet_on))
   refine wpQuiet_nil ?_
   intro wq hq
   have HR5:=HR0.out.belowS hq.bel
   obtain ⟨r0,r1,r2⟩:=HR5.cells3
   have rf:=HR5.frozen
   have rz:=HR5.lt
   have HB5:=Lib.hid (bel_step HB0.out hq.bel HB0.out.size)
   go_wp2_with fail
   refine bodyPost_ret (v:=.tuple #[.agg #[.int .i64 0,.int .i64 0,.slice none 0 0],.int .i64 4]) (by simp [results,Tryz.results124,go_sem, *]) rfl ?_
   exact open_none ANS.out (((HB5.out.setCell (by simp) _).setCell (by simp) _).setCell (by simp) _)
 ·have ANS:=Lib.hid (openP_size h1)
  have g2:((s.size:Int) != 1024)=true:=by simp;omega
  go_enter Tryz.func124,Tryz.ntmps124
  go_wp2_with fail
  refine wp_region_cls (_) (by kernel_rfl) (by kernel_rfl) (Cls.start _) ?_
  repeat
   first
    | go_big_quiet_skip
    | (go_big_quiet_want;(first | go_big_quiet_op | go_simp);first | go_big_quiet_on | (apply Exists.intro;refine ⟨fun w' hw'=>?_, ?_⟩;(·(first | (with_reducible exact rfl) | (fail) | (obtain ⟨hc,hf⟩:=hw'.facts;go_simp;first | done | (with_reducible exact rfl) | (with_reducible exact ⟨rfl,rfl⟩))));go_big_quiet_on))
  refine wpQuiet_nil ?_
  intro wq hq
  have HR5:=HR0.out.belowS hq.bel
  obtain ⟨r0,r1,r2⟩:=HR5.cells3
  have rf:=HR5.frozen
  have rz:=HR5.lt
  have HB5:=Lib.hid (bel_step HB0.out hq.bel HB0.out.size)
  go_wp2_with fail
  refine bodyPost_ret (v:=.tuple #[.agg #[.int .i64 0,.int .i64 0,.slice none 0 0],.int .i64 4]) (by simp [results,Tryz.results124,go_sem, *]) rfl ?_
  exact open_none ANS.out (((HB5.out.setCell (by simp) _).setCell (by simp) _).setCell (by simp) _)
end Go.Proofs.YtjihboddejaelaaGreat
namespace Go.Proofs.YtjihboddejaelaaGreat
open Go.RowKit
open Go.BigFrame
section
variable {P:Pl} {k:Nat}
theorem spill_fit (h:Fit P.L.D (k+1)) (f:Pf):Fit (P.spill f).1.L.D k:=by
 unfold Pl.spill
 split
 ·split <;> exact append_fit h _ _
 ·exact h.less (by omega)
theorem room_fit (h:Fit P.L.D (k+1)):Fit P.room.1.L.D k:=by
 unfold Pl.room
 split
 ·exact h.less (by omega)
 ·split
  ·exact h.less (by omega)
  ·exact spill_fit h _
theorem get_fit (h:Fit P.L.D (k+1)) (x:Int):Fit (P.get x).1.L.D k:=by
 unfold Pl.get
 split
 ·split
  ·exact h.less (by omega)
  ·split
   ·unfold Pl.fetch
    split <;> exact room_fit h
   ·exact room_fit h
 ·exact h.less (by omega)
theorem put_fit (h:Fit P.L.D (k+1)) (x:Int) (s:ByteArray):Fit (P.put x s).1.L.D k:=by
 unfold Pl.put
 split
 ·exact get_fit h x
 ·exact get_fit h x
theorem setFree_fit (h:Fit P.L.D (k+2)) (n:Nat):Fit (P.setFree n).1.L.D k:=by
 have h1:Fit (P.get 0).1.L.D (k+1):=get_fit h 0
 unfold Pl.setFree
 split
 ·split
  ·exact h1.less (by omega)
  ·split <;> exact put_fit h1 _ _
 ·exact h1.less (by omega)
theorem lastF_size (ok:P.ok):P.lastF.s.size≤1024:=by
 unfold Pl.lastF
 rcases List.eq_nil_or_concat P.ring with h | ⟨F,f,h⟩
 ·rw [h];exact Nat.zero_le _
 ·rw [h]
  rw [List.concat_eq_append] at h ⊢
  have:(F++[f]).getLastD pf0=f:=by simp
  rw [this]
  exact Nat.le_of_eq (ok.size f (by rw [h];exact List.mem_append_right _ (List.mem_singleton.2 rfl)))
theorem put_ok (ok:P.ok) (x:Int) {s:ByteArray} (hs:s.size=1024):(P.put x s).1.ok:=by
 have go:=get_ok ok x
 by_cases h0:(P.get x).2=0
 ·obtain ⟨F0,f,hF,hfx,i0,i1⟩:=get_last ok h0
  rw [put_eq h0 hF hfx]
  have nm:=go.names
  have sz:=go.size
  have fl:=go.full
  have pg:=go.pages
  rw [hF] at nm sz fl pg
  refine ⟨go.log, ?_,fun q hq=>?_,fun q hq=>?_,go.most, ?_,go.few,go.link, ?_,fun y hy=>?_⟩
  ·show ((F0++[_]).map _).Nodup
   simpa using nm
  ·rcases List.mem_append.1 hq with hq | hq
   ·exact pg q (List.mem_append_left _ hq)
   ·rw [List.mem_singleton.1 hq];exact pg f (List.mem_append_right _ (List.mem_singleton.2 rfl))
  ·rcases List.mem_append.1 hq with hq | hq
   ·exact sz q (List.mem_append_left _ hq)
   ·rw [List.mem_singleton.1 hq];exact hs
  ·show (F0++[_]).length≤_
   simpa using fl
  ·show (insN _ _).Nodup
   unfold insN
   split
   ·exact go.turnd
   ·rename_i hn;exact List.nodup_cons.2 ⟨hn,go.turnd⟩
  ·have hy2:y∈insN f.n (P.get x).1.turned:=hy
   unfold insN at hy2
   split at hy2
   ·exact go.turns y hy2
   ·rcases List.mem_cons.1 hy2 with rfl | hy2
    ·exact pg f (List.mem_append_right _ (List.mem_singleton.2 rfl))
    ·exact go.turns y hy2
 ·unfold Pl.put
  rw [if_neg h0]
  exact go
theorem Pl.ok.withFree (ok:P.ok) {n:Nat} (hn:n≤2147483647):({ P with free:=n }:Pl).ok :=
 ⟨ok.log,ok.names,ok.pages,ok.size,ok.most,ok.full,ok.few,hn,ok.turnd,ok.turns⟩
theorem setFree_ok (ok:P.ok) {n:Nat} (hn:n≤2147483647):(P.setFree n).1.ok:=by
 unfold Pl.setFree
 split
 ·split
  ·exact get_ok ok 0
  ·rename_i pg hpg
   have hv:=openP_valid.1 hpg
   have hp:=put_ok (get_ok ok 0) 0 (s:=sealS 4 n pg.2.2) (seal_size (K:=4) (by omega) (by omega) hn hv.2.2.2.1)
   split
   ·exact hp.withFree hn
   ·exact hp
 ·exact get_ok ok 0
end
theorem SS.nil (w:World):SS w none 0 []:=⟨rfl,fun h=>absurd h (by omega)⟩
theorem used_count:∀ cs:List ByteArray,4*cs.length≤usedN cs
 | []=>Nat.zero_le _
 | c :: cs=>by
   have:=used_count cs
   simp only [usedN,List.map_cons,List.sum_cons,List.length_cons] at this ⊢
   omega
set_option maxRecDepth 100000 in
set_option maxHeartbeats 1600000 in
theorem pool_meta (n:Nat) (A:Option Addr) (k c:Nat) (cs:List ByteArray) (w:World) (h:SS w A k cs) (hu:usedN cs≤1012) :
 Calls Tryz.prog 41 #[.int .i64 n,.slice A k c] w fun e w'=>e = .returned (.string (sealS 4 n cs))∧Below w.heap.size w w':=by
 have hk:k≤4194304:=by have:=used_count cs;have:=h.1;omega
 have SL:=Lib.hid (page_Seal 4 n A k c cs w h hk (by omega))
 obtain ⟨T,hT⟩:∃ T,sealS 4 n cs=T:=⟨_,rfl⟩
 obtain ⟨E,hE⟩:∃ T,sealE 4 n cs=T:=⟨_,rfl⟩
 rw [hT,hE] at SL
 rw [hT]
 clear h hu hT hE hk
 go_enter Tryz.func41,Tryz.ntmps41
 go_wp2_with (go_at_call 122;refine SL.out.mono ?_;rintro en w1 ⟨rfl,hb⟩)
 go_ret
 exact ⟨rfl,hb⟩
set_option maxRecDepth 100000 in
set_option maxHeartbeats 6400000 in
theorem pool_setFree (b:List (Option Nat)) (gd g m1 m2 p e h t:Nat) (A:List Nat) (P:Pl) (n:Nat) (hn:n≤2147483647) (w:World) (H:PM w b gd g m1 m2 p e h t A P) (ok:P.ok) (fit:Fit P.L.D 2) :
 Calls Tryz.prog 127 #[.pointer (some ⟨p,0,none⟩),.int .i64 n] w (RoomPost (allB b g m1 m2 p e h t A) w gd g p e h t (P.setFree n).1 (P.setFree n).2):=by
 have RD:=Lib.hid (pool_Read b gd g m1 m2 p e h t A P 0 ⟨by omega,by omega⟩ w H ok (fit.less (by omega)))
 have GOK:=Lib.hid (get_ok ok 0)
 have GF:=Lib.hid (get_fit (k:=1) fit 0)
 have HS:Hid (P.setFree n=if (P.get 0).2=0 then (match openP (P.get 0).1.lastF.s with
  | none=>((P.get 0).1,4)
  | some pg=>if ((P.get 0).1.put 0 (sealS 4 n pg.2.2)).2=0 then ({ ((P.get 0).1.put 0 (sealS 4 n pg.2.2)).1 with free:=n },0) else (P.get 0).1.put 0 (sealS 4 n pg.2.2)) else P.get 0):=rfl
 have TX:Hid (P.text 0=if (P.get 0).2=0 then (P.get 0).1.lastF.s else ⟨#[]⟩):=rfl
 obtain ⟨T,hT⟩:∃ T,P.text 0=T:=⟨_,rfl⟩
 obtain ⟨Q,hQ⟩:∃ Q,(P.get 0).1=Q:=⟨_,rfl⟩
 obtain ⟨E,hE⟩:∃ E,(P.get 0).2=E:=⟨_,rfl⟩
 have hPQ:P.get 0=(Q,E):=by rw [← hQ,← hE]
 rw [hT,hQ,hE] at RD TX
 rw [hQ] at GOK GF
 rw [hPQ] at HS
 dsimp only at HS
 clear H ok fit hT hQ hE hPQ
 by_cases hE0:E=0
 ·subst hE0
  have HT:=Lib.hid (TX.out.trans (if_pos rfl))
  have HS2:=Lib.hid (HS.out.trans (if_pos rfl))
  rw [← HT.out] at HS2
  have TZ:T.size≤1048576:=by rw [HT.out];exact Nat.le_trans (lastF_size GOK.out) (by omega)
  have OP:=Lib.hid (fun w=>page_Open T TZ w)
  clear HS TX TZ
  cases ho:openP T with
  | none =>
    have OP2:Hid (∀ w,Calls Tryz.prog 124 #[.string T] w fun e w'=>e = .returned (.tuple #[.agg #[.int .i64 0,.int .i64 0,.slice none 0 0],.int .i64 4])∧Below w.heap.size w w'):=fun w=>by
     have:=OP.out w
     rw [ho] at this;exact this
    have HS3:Hid (P.setFree n=(Q,4)):=by have:=HS2.out;rw [ho] at this;exact this
    clear OP HS2 ho
    go_enter Tryz.func127,Tryz.ntmps127
    go_wp2_with (first
     | (go_at_call 70;refine RD.out.mono ?_;rintro en w1 ⟨rfl,b1,n1,n2,A1,hpm,ht⟩)
     | (go_at_call 124;refine (OP2.out _).mono ?_;rintro en w2 ⟨rfl,hb2⟩))
    go_ret
    rw [HS3.out]
    have hb3:=hb2.alloc hb2.size (.cells #[.int .i64 0,.int .i64 0,.slice none 0 0] 114)
    exact ⟨rfl,b1,n1,n2,A1,hpm.below hb3,ht.trans (Turn.below _ hb3)⟩
  | some pg =>
    obtain ⟨k,l,cs⟩:=pg
    have hv:=openP_valid.1 ho
    have hu:usedN cs≤1012:=hv.2.2.2.1
    have OP2:Hid (∀ w,Calls Tryz.prog 124 #[.string T] w fun e w'=>∃ A c,e = .returned (.tuple #[.agg #[.int .i64 k,.int .i64 l,.slice A cs.length c],.int .i64 0])∧SS w' A cs.length cs∧Below w.heap.size w w'):=fun w=>by
     have:=OP.out w
     rw [ho] at this;exact this
    have HS3:Hid (P.setFree n=if (Q.put 0 (sealS 4 n cs)).2=0 then ({ (Q.put 0 (sealS 4 n cs)).1 with free:=n },0) else Q.put 0 (sealS 4 n cs)):=by have:=HS2.out;rw [ho] at this;exact this
    have MT:=Lib.hid (fun A c w (hs:SS w A cs.length cs)=>pool_meta n A cs.length c cs w hs hu)
    have PT:=Lib.hid (fun b1 n1 n2 A1 w1 (hq:PM w1 b1 gd g n1 n2 p e h t A1 Q)=>pool_put b1 gd g n1 n2 p e h t A1 Q 0 ⟨by omega,by omega⟩ (sealS 4 n cs) w1 hq GOK.out GF.out)
    obtain ⟨S,hS⟩:∃ S,sealS 4 n cs=S:=⟨_,rfl⟩
    rw [hS] at HS3 MT PT
    obtain ⟨R,hR⟩:∃ R,(Q.put 0 S).1=R:=⟨_,rfl⟩
    obtain ⟨E,hE⟩:∃ E,(Q.put 0 S).2=E:=⟨_,rfl⟩
    have hPQ:Q.put 0 S=(R,E):=by rw [← hR,← hE]
    rw [hPQ] at HS3 PT
    dsimp only at HS3 PT
    clear OP HS2 ho hv hu hS hR hE hPQ
    by_cases hE0:E=0
    ·subst hE0
     have HS4:=Lib.hid (HS3.out.trans (if_pos rfl))
     clear HS3
     go_enter Tryz.func127,Tryz.ntmps127
     go_wp2_with (first
      | (go_at_call 70;refine RD.out.mono ?_;rintro en w1 ⟨rfl,b1,n1,n2,A1,hpm,ht⟩;have HM:=Lib.hid hpm;have HT1:=Lib.hid ht;clear hpm ht)
      | (go_at_call 124;refine (OP2.out _).mono ?_;rintro en w2 ⟨A2,c2,rfl,hss,hb2⟩;have HSS:=Lib.hid (hss.keep (((Below.refl _ _).alloc (Nat.le_refl _) (.cells #[.int .i64 k,.int .i64 l,.slice A2 cs.length c2] 114))));have HB2:=Lib.hid (hb2.alloc hb2.size (.cells #[.int .i64 k,.int .i64 l,.slice A2 cs.length c2] 114));clear hss)
      | (go_at_call 41;refine (MT.out _ _ _ HSS.out).mono ?_;rintro en w3 ⟨rfl,hb3⟩;have HB3:=Lib.hid (bel_step HB2.out hb3 HB2.out.size))
      | (go_at_call 128;refine (PT.out _ _ _ _ _ (HM.out.below HB3.out)).mono ?_;rintro en w4 ⟨rfl,b4,n4,n5,A4,hpm4,ht4⟩;have y5:w4.cell? ⟨p,5,none⟩=some (.int .i64 R.free):=hpm4.has.cell 5;have yf:=hpm4.has.frozen))
     go_ret
     rw [HS4.out]
     obtain ⟨s1,s2⟩:=hpm4.set (P':={ R with free:=n }) 5 (.int .i64 n) rfl rfl rfl rfl
     exact ⟨rfl,b4,n4,n5,A4,s1,((HT1.out.trans (Turn.below _ HB3.out)).trans ht4).trans s2⟩
    ·have HS4:=Lib.hid (HS3.out.trans (if_neg hE0))
     clear HS3
     go_enter Tryz.func127,Tryz.ntmps127
     go_wp2_with (first
      | (go_at_call 70;refine RD.out.mono ?_;rintro en w1 ⟨rfl,b1,n1,n2,A1,hpm,ht⟩;have HM:=Lib.hid hpm;have HT1:=Lib.hid ht;clear hpm ht)
      | (go_at_call 124;refine (OP2.out _).mono ?_;rintro en w2 ⟨A2,c2,rfl,hss,hb2⟩;have HSS:=Lib.hid (hss.keep (((Below.refl _ _).alloc (Nat.le_refl _) (.cells #[.int .i64 k,.int .i64 l,.slice A2 cs.length c2] 114))));have HB2:=Lib.hid (hb2.alloc hb2.size (.cells #[.int .i64 k,.int .i64 l,.slice A2 cs.length c2] 114));clear hss)
      | (go_at_call 41;refine (MT.out _ _ _ HSS.out).mono ?_;rintro en w3 ⟨rfl,hb3⟩;have HB3:=Lib.hid (bel_step HB2.out hb3 HB2.out.size))
      | (go_at_call 128;refine (PT.out _ _ _ _ _ (HM.out.below HB3.out)).mono ?_;rintro en w4 ⟨rfl,b4,n4,n5,A4,hpm4,ht4⟩))
     go_ret
     rw [HS4.out]
     exact ⟨rfl,b4,n4,n5,A4,hpm4,(HT1.out.trans (Turn.below _ HB3.out)).trans ht4⟩
 ·have HS2:=Lib.hid (HS.out.trans (if_neg hE0))
  clear HS TX
  go_enter Tryz.func127,Tryz.ntmps127
  go_wp2_with (go_at_call 70;refine RD.out.mono ?_;rintro en w1 ⟨rfl,b1,n1,n2,A1,hpm,ht⟩)
  go_ret
  rw [HS2.out]
  exact ⟨rfl,b1,n1,n2,A1,hpm,ht⟩
end Go.Proofs.YtjihboddejaelaaGreat
namespace Go.Proofs.YtjihboddejaelaaGreat
open Go.RowKit
open Go.BigFrame
theorem seal_free (l:Nat) (w:World):Calls Tryz.prog 122 #[.agg #[.int .i64 3,.int .i64 l,.slice none 0 0]] w fun e w'=>e = .returned (.tuple #[.string (sealS 3 l []),.int .i64 (sealE 3 l [])])∧Below w.heap.size w w' :=
 page_Seal 3 l none 0 0 [] w (SS.nil w) (by omega) (by decide)
theorem seal_blank (w:World):Calls Tryz.prog 122 #[.agg #[.int .i64 3,.int .i64 0,.slice none 0 0]] w fun e w'=>e = .returned (.tuple #[.string blankS,.int .i64 (sealE 3 0 [])])∧Below w.heap.size w w':=seal_free 0 w
theorem blank_size:blankS.size=1024:=seal_size (K:=3) (L:=0) (by omega) (by omega) (by omega) (by decide)
section
variable {P:Pl}
theorem grow_ok (ok:P.ok) (h:¬ 67108864<(P.pages+1)*1024):P.grow.1.ok:=by
 obtain ⟨r1,r2⟩:=room_ok ok
 obtain ⟨s1,s2,s3,s4,s5⟩:=room_same (P:=P)
 unfold Pl.grow
 split
 ·rename_i h0
  have r3:=r2 h0
  have hpg:=r1.pages
  have ok2:({ P.room.1 with pages:=P.room.1.pages+1 }:Pl).ok :=
   ⟨r1.log,r1.names,fun f hf=>Nat.lt_succ_of_lt (r1.pages f hf),r1.size,r1.most,r1.full,by show P.room.1.pages+1≤65536;omega,r1.link,r1.turnd,fun x hx=>Nat.lt_succ_of_lt (r1.turns x hx)⟩
  have ok3:=snoc_ok ok2 (f:=⟨P.room.1.pages,blankS,0,true⟩) (fun q hq=>by have h4:=r1.pages q hq;show (q.n:Int)≠(P.room.1.pages:Int);omega) (Nat.lt_succ_self _) blank_size (by show P.room.1.ring.length<P.room.1.most;omega) P.room.1.hits P.room.1.misses
  refine ⟨ok3.log,ok3.names,ok3.pages,ok3.size,ok3.most,ok3.full,ok3.few,ok3.link, ?_,fun y hy=>?_⟩
  ·show (insN _ _).Nodup
   unfold insN
   split
   ·exact r1.turnd
   ·rename_i hn;exact List.nodup_cons.2 ⟨hn,r1.turnd⟩
  ·have hy2:y∈insN P.room.1.pages P.room.1.turned:=hy
   show y<P.room.1.pages+1
   unfold insN at hy2
   split at hy2
   ·have:=r1.turns y hy2;omega
   ·rcases List.mem_cons.1 hy2 with rfl | hy2
    ·omega
    ·have:=r1.turns y hy2;omega
 ·exact r1
end
def AllocPost (B:List (Option Nat)) (w:World) (gd g p e h t:Nat) (P:Pl) (n:Nat) (E:Int) (en:Ending) (w':World):Prop :=
 en = .returned (.tuple #[.int .i64 n,.int .i64 E])∧∃ b' m1' m2' A',PM w' b' gd g m1' m2' p e h t A' P∧Turn B (allB b' g m1' m2' p e h t A') w w'
def Pl.allocT (P:Pl):Nat:=if P.alloc.2=0 then P.allocN else 0
set_option maxRecDepth 100000 in
set_option maxHeartbeats 6400000 in
theorem pool_grow (b:List (Option Nat)) (gd g m1 m2 p e h t:Nat) (A:List Nat) (P:Pl) (w:World) (H:PM w b gd g m1 m2 p e h t A P) (ok:P.ok) (fit:Fit P.L.D 1) (hf:P.free=0) :
 Calls Tryz.prog 45 #[.pointer (some ⟨p,0,none⟩)] w (AllocPost (allB b g m1 m2 p e h t A) w gd g p e h t P.alloc.1 P.allocT P.alloc.2):=by
 have HP:=Lib.hid H
 have x5:w.cell? ⟨p,5,none⟩=some (.int .i64 0):=by have:w.cell? ⟨p,5,none⟩=some (.int .i64 P.free):=H.has.cell 5;rw [hf] at this;exact this
 have x4:w.cell? ⟨p,4,none⟩=some (.int .i64 P.pages):=H.has.cell 4
 have pb1:(P.pages:Int)≤65536:=by have:=ok.few;omega
 have HA:Hid (P.alloc=if 67108864<(P.pages+1)*1024 then (P,8) else P.grow):=if_pos hf
 have HT:Hid (P.allocT=if P.alloc.2=0 then P.pages else 0):=by
  have:P.allocN=P.pages:=if_pos hf
  unfold Pl.allocT;rw [this];exact Lib.hid rfl
 by_cases hbig:67108864<(P.pages+1)*1024
 ·have HA2:=Lib.hid (HA.out.trans (if_pos hbig))
  have HT2:Hid (P.allocT=0):=by have:=HT.out;rw [HA2.out] at this;exact this
  have g1:(67108864:Int)<((P.pages:Int)+1)*1024:=by omega
  rw [HA2.out,HT2.out]
  clear H ok fit hf HA HT hbig
  go_enter Tryz.func45,Tryz.ntmps45
  go_wp2_with fail
  go_ret2
  exact ⟨rfl,b,m1,m2,A,HP.out,Turn.refl _ _⟩
 ·have HA2:=Lib.hid (HA.out.trans (if_neg hbig))
  have g1:¬ (67108864:Int)<((P.pages:Int)+1)*1024:=by omega
  have RM:=Lib.hid (pool_room b gd g m1 m2 p e h t A P w H ok fit)
  have RO:=Lib.hid (room_ok ok)
  have RS:=Lib.hid (room_same (P:=P))
  have HG:Hid (P.grow=if P.room.2=0 then ({ P.room.1 with pages:=P.room.1.pages+1,ring:=P.room.1.ring++[⟨P.room.1.pages,blankS,0,true⟩],turned:=insN P.room.1.pages P.room.1.turned },0) else P.room):=rfl
  obtain ⟨R,hR⟩:∃ R,P.room.1=R:=⟨_,rfl⟩
  obtain ⟨E,hE⟩:∃ E,P.room.2=E:=⟨_,rfl⟩
  have hPR:P.room=(R,E):=by rw [← hR,← hE]
  rw [hPR] at RM RO RS HG
  dsimp only at RM RO RS HG
  clear H ok fit hf HA hR hE hPR hbig
  by_cases hE0:E=0
  ·subst hE0
   have HG2:=Lib.hid (HG.out.trans (if_pos rfl))
   have SB:=Lib.hid seal_blank
   have WN:=Lib.hid (wfI (x:=(R.pages:Int)) (by omega) (by have:=RO.out.1.few;omega))
   have rb1:(R.pages:Int)≤65536:=by have:=RO.out.1.few;omega
   obtain ⟨S,hS⟩:∃ S,blankS=S:=⟨_,rfl⟩
   rw [hS] at HG2 SB
   obtain ⟨E3,hE3⟩:∃ E,sealE 3 0 []=E:=⟨_,rfl⟩
   rw [hE3] at SB
   have TL:=Lib.hid (Nat.le_trans (nodup_le _ _ RO.out.1.turnd RO.out.1.turns) (Nat.le_trans RO.out.1.few (by decide:65536≤100000000)))
   have HT2:Hid (P.allocT=R.pages):=by have:=HT.out;rw [HA2.out,HG2.out] at this;exact this.trans RS.out.2.1.symm
   have LST:Hid (∀ (w1:World) b1 n1 n2 A1,PM w1 b1 gd g n1 n2 p e h t A1 { R with pages:=R.pages+1 } →
    Calls Tryz.prog 126 #[ptrB p,ptrB w1.heap.size] (w1.alloc (.cells #[.int .i64 (R.pages:Int),.string S,.int .i64 0,.bool true,.pointer none,.pointer none] 166))
     (fun en w'=>en = .returned (ptrB w1.heap.size)∧PM w' b1 gd g n1 n2 p e h t (A1++[w1.heap.size]) { R with pages:=R.pages+1,ring:=R.ring++[⟨R.pages,S,0,true⟩] }∧Turn (allB b1 g n1 n2 p e h t A1) (allB b1 g n1 n2 p e h t (A1++[w1.heap.size])) w1 w')):=fun w1 b1 n1 n2 A1 hq=>by
    have hb:Below w1.heap.size w1 (w1.alloc (.cells #[.int .i64 (R.pages:Int),.string S,.int .i64 0,.bool true,.pointer none,.pointer none] 166)):=(Below.refl _ _).alloc (Nat.le_refl _) _
    refine (pm_last (f:=⟨R.pages,S,0,true⟩) (hq.below hb) (Has.new w1 _ _) (fun hk=>?_) (fun q hq2=>?_) ?_ ?_).mono ?_
    ·have:=hq.lt _ hk;omega
    ·have h4:=RO.out.1.pages q hq2;show (q.n:Int)≠(R.pages:Int);omega
    ·show R.ring.length≤1000
     have:=RO.out.1.full;have:=RO.out.1.most;omega
    ·show R.pages≤4294967296
     have:=RO.out.1.few;omega
    ·rintro en w' ⟨he,h1,h2⟩
     exact ⟨he,h1,(turn_new hb (a:=w1.heap.size) (Nat.le_refl _)).trans h2⟩
   clear hS hE3 HG HT RS
   rw [HA2.out,HG2.out,HT2.out]
   go_enter Tryz.func45,Tryz.ntmps45
   go_upto_region 11 with (first
    | (go_at_call 125;refine RM.out.mono ?_;rintro e2 w1 ⟨rfl,b1,n1,n2,A1,hpm,ht⟩;have HM:=Lib.hid hpm;have HT1:=Lib.hid ht;have y4:w1.cell? ⟨p,4,none⟩=some (.int .i64 R.pages):=hpm.has.cell 4;have yf:=hpm.has.frozen;clear hpm ht)
    | (go_at_call 122;have S4:=Lib.hid (HM.out.set (P':={ R with pages:=R.pages+1 }) 4 (.int .i64 ((R.pages:Int)+1)) rfl rfl rfl rfl);refine (SB.out _).mono ?_;rintro e3 w3 ⟨rfl,hb3⟩;have HM3:=Lib.hid (S4.out.1.below hb3);have HT3:=Lib.hid ((HT1.out.trans S4.out.2).trans (Turn.below _ hb3));clear S4 hb3)
    | (go_at_call 126;refine (LST.out _ _ _ _ _ HM3.out).mono ?_;rintro e4 w4 ⟨rfl,hpm4,ht4⟩))
   have HM4:=Lib.hid hpm4
   have HT4:=Lib.hid (HT3.out.trans ht4)
   have y6:w4.cell? ⟨p,6,none⟩=some (.map (some t)):=hpm4.has.cell 6
   have MT:=Lib.hid hpm4.turned
   clear hpm4 ht4 y4 yf
   go_wp2_with (at_mapUpdate;refine wpList_put_gm _ rfl _ _ _ 104 3 rfl Tryz.underlying104 t _ _ rfl MT.out TL.out (R.pages:Int) rfl WN.out _ 1 rfl [] (intElem 1 (by omega)) ?_;intro w5 hm5 hg5)
   go_ret2
   obtain ⟨s5,t5⟩:=HM4.out.tell (n:=R.pages) hm5 hg5
   exact ⟨rfl,b1,n1,n2,_,s5,HT4.out.trans t5⟩
  ·have HG2:=Lib.hid (HG.out.trans (if_neg hE0))
   have HT2:Hid (P.allocT=0):=by have:=HT.out;rw [HA2.out,HG2.out,if_neg hE0] at this;exact this
   rw [HA2.out,HG2.out,HT2.out]
   clear HG HT RO RS HA2
   have d1:decide ((67108864:Int)<((P.pages:Int)+1)*1024)=false:=decide_eq_false g1
   clear g1
   go_enter Tryz.func45,Tryz.ntmps45
   go_wp2_with (go_at_call 125;refine RM.out.mono ?_;rintro e2 w1 ⟨rfl,b1,n1,n2,A1,hpm,ht⟩)
   go_ret2
   exact ⟨rfl,b1,n1,n2,A1,hpm,ht⟩
set_option maxRecDepth 100000 in
set_option maxHeartbeats 6400000 in
theorem pool_reuse (b:List (Option Nat)) (gd g m1 m2 p e h t:Nat) (A:List Nat) (P:Pl) (w:World) (H:PM w b gd g m1 m2 p e h t A P) (ok:P.ok) (fit:Fit P.L.D 4) (hf:¬ P.free=0) :
 Calls Tryz.prog 45 #[.pointer (some ⟨p,0,none⟩)] w (AllocPost (allB b g m1 m2 p e h t A) w gd g p e h t P.alloc.1 P.allocT P.alloc.2):=by
 have fb:(P.free:Int)≤2147483647:=by have:=ok.link;omega
 have RD:=Lib.hid (pool_Read b gd g m1 m2 p e h t A P P.free ⟨by omega,by omega⟩ w H ok (fit.less (by omega)))
 have GOK:=Lib.hid (get_ok ok P.free)
 have GF:=Lib.hid (get_fit (k:=3) fit P.free)
 have HA:Hid (P.alloc=if (P.get P.free).2=0 then (match openP (P.get P.free).1.lastF.s with
  | none=>((P.get P.free).1,4)
  | some pg=>if ((P.get P.free).1.setFree pg.2.1).2=0 then ((P.get P.free).1.setFree pg.2.1).1.put P.free blankS else (P.get P.free).1.setFree pg.2.1) else P.get P.free):=if_neg hf
 have HT:Hid (P.allocT=if P.alloc.2=0 then P.free else 0):=by
  have:P.allocN=P.free:=if_neg hf
  unfold Pl.allocT;rw [this];exact Lib.hid rfl
 have TX:Hid (P.text P.free=if (P.get P.free).2=0 then (P.get P.free).1.lastF.s else ⟨#[]⟩):=rfl
 have x5:w.cell? ⟨p,5,none⟩=some (.int .i64 P.free):=H.has.cell 5
 have f0:((P.free:Int) == 0)=false:=by rw [beq_eq_false_iff_ne];omega
 obtain ⟨T,hT⟩:∃ T,P.text P.free=T:=⟨_,rfl⟩
 obtain ⟨Q,hQ⟩:∃ Q,(P.get P.free).1=Q:=⟨_,rfl⟩
 obtain ⟨E,hE⟩:∃ E,(P.get P.free).2=E:=⟨_,rfl⟩
 have hPQ:P.get P.free=(Q,E):=by rw [← hQ,← hE]
 rw [hT,hQ,hE] at RD TX
 rw [hQ] at GOK GF
 rw [hPQ] at HA
 dsimp only at HA
 obtain ⟨N,hN⟩:∃ N,P.free=N:=⟨_,rfl⟩
 rw [hN] at RD HA HT x5 f0 fb
 clear H ok fit hT hQ hE hPQ hf hN
 by_cases hE0:E=0
 ·subst hE0
  have HXT:=Lib.hid (TX.out.trans (if_pos rfl))
  have HA2:=Lib.hid (HA.out.trans (if_pos rfl))
  rw [← HXT.out] at HA2
  have TZ:T.size≤1048576:=by rw [HXT.out];exact Nat.le_trans (lastF_size GOK.out) (by omega)
  have OP:=Lib.hid (fun w=>page_Open T TZ w)
  clear HA TX TZ
  cases ho:openP T with
  | none =>
    have OP2:Hid (∀ w,Calls Tryz.prog 124 #[.string T] w fun e w'=>e = .returned (.tuple #[.agg #[.int .i64 0,.int .i64 0,.slice none 0 0],.int .i64 4])∧Below w.heap.size w w'):=fun w=>by
     have:=OP.out w
     rw [ho] at this;exact this
    have HA3:Hid (P.alloc=(Q,4)):=by have:=HA2.out;rw [ho] at this;exact this
    have HT2:Hid (P.allocT=0):=by have:=HT.out;rw [HA3.out] at this;exact this
    rw [HA3.out,HT2.out]
    clear OP HA2 ho
    go_enter Tryz.func45,Tryz.ntmps45
    go_wp2_with (first
     | (go_at_call 70;refine RD.out.mono ?_;rintro en w1 ⟨rfl,b1,n1,n2,A1,hpm,ht⟩;have HM:=Lib.hid hpm;have HT1:=Lib.hid ht;clear hpm ht)
     | (go_at_call 124;refine (OP2.out _).mono ?_;rintro en w2 ⟨rfl,hb2⟩))
    go_ret2
    have hb3:=hb2.alloc hb2.size (.cells #[.int .i64 0,.int .i64 0,.slice none 0 0] 114)
    exact ⟨rfl,b1,n1,n2,A1,HM.out.below hb3,HT1.out.trans (Turn.below _ hb3)⟩
  | some pg =>
    obtain ⟨k,l,cs⟩:=pg
    have hv:=openP_valid.1 ho
    have hl:l≤2147483647:=hv.2.2.1
    have OP2:Hid (∀ w,Calls Tryz.prog 124 #[.string T] w fun e w'=>∃ A c,e = .returned (.tuple #[.agg #[.int .i64 k,.int .i64 l,.slice A cs.length c],.int .i64 0])∧SS w' A cs.length cs∧Below w.heap.size w w'):=fun w=>by
     have:=OP.out w
     rw [ho] at this;exact this
    have HA3:Hid (P.alloc=if (Q.setFree l).2=0 then (Q.setFree l).1.put N blankS else Q.setFree l):=by have:=HA2.out;rw [ho] at this;exact this
    have SF:=Lib.hid (fun b1 n1 n2 A1 w1 (hq:PM w1 b1 gd g n1 n2 p e h t A1 Q)=>pool_setFree b1 gd g n1 n2 p e h t A1 Q l hl w1 hq GOK.out (GF.out.less (by omega)))
    have SOK:=Lib.hid (setFree_ok GOK.out hl)
    have SFF:=Lib.hid (setFree_fit (k:=1) GF.out l)
    obtain ⟨R,hR⟩:∃ R,(Q.setFree l).1=R:=⟨_,rfl⟩
    obtain ⟨E2,hE2⟩:∃ E,(Q.setFree l).2=E:=⟨_,rfl⟩
    have hPQ:Q.setFree l=(R,E2):=by rw [← hR,← hE2]
    rw [hPQ] at HA3 SF SOK SFF
    dsimp only at HA3 SF SOK SFF
    clear OP HA2 ho hv hl hR hE2 hPQ
    by_cases hE0:E2=0
    ·subst hE0
     have HA4:=Lib.hid (HA3.out.trans (if_pos rfl))
     have SB:=Lib.hid seal_blank
     obtain ⟨E3,hE3⟩:∃ E,sealE 3 0 []=E:=⟨_,rfl⟩
     obtain ⟨S,hS⟩:∃ S,blankS=S:=⟨_,rfl⟩
     rw [hE3,hS] at SB
     rw [hS] at HA4
     have PT:=Lib.hid (fun b1 n1 n2 A1 w1 (hq:PM w1 b1 gd g n1 n2 p e h t A1 R)=>pool_put b1 gd g n1 n2 p e h t A1 R N ⟨by omega,by omega⟩ S w1 hq SOK.out SFF.out)
     obtain ⟨M,hM⟩:∃ R',(R.put N S).1=R':=⟨_,rfl⟩
     obtain ⟨E4,hE4⟩:∃ E,(R.put N S).2=E:=⟨_,rfl⟩
     have hPQ:R.put N S=(M,E4):=by rw [← hM,← hE4]
     rw [hPQ] at HA4 PT
     dsimp only at PT
     have HT2:=HT.out
     rw [HA4.out] at HT2
     dsimp only at HT2
     clear HA3 hE3 hS hM hE4 hPQ HT
     rw [HA4.out]
     by_cases hE0:E4=0
     ·subst hE0
      have HT3:=Lib.hid (HT2.trans (if_pos rfl))
      rw [HT3.out]
      clear HT2
      go_enter Tryz.func45,Tryz.ntmps45
      go_wp2_with (first | (go_at_call 70;refine RD.out.mono ?_;rintro en w1 ⟨rfl,b1,n1,n2,A1,hpm,ht⟩;have HM:=Lib.hid hpm;have HT1:=Lib.hid ht;clear hpm ht) | (go_at_call 124;refine (OP2.out _).mono ?_;rintro en w2 ⟨A2,c2,rfl,hss,hb2⟩;have HB2:=Lib.hid (hb2.alloc hb2.size (.cells #[.int .i64 k,.int .i64 l,.slice A2 cs.length c2] 114));clear hss) | (go_at_call 127;refine (SF.out _ _ _ _ _ (HM.out.below HB2.out)).mono ?_;rintro en w3 ⟨rfl,b3,n3,n4,A3,hpm3,ht3⟩;have HM3:=Lib.hid hpm3;have HT3:=Lib.hid ((HT1.out.trans (Turn.below _ HB2.out)).trans ht3);clear hpm3 ht3) | (go_at_call 122;refine (SB.out _).mono ?_;rintro e3 w4 ⟨rfl,hb4⟩) | (go_at_call 128;refine (PT.out _ _ _ _ _ (HM3.out.below hb4)).mono ?_;rintro en w5 ⟨rfl,b5,n5,n6,A5,hpm5,ht5⟩))
      go_ret2
      exact ⟨rfl,b5,n5,n6,A5,hpm5,(HT3.out.trans (Turn.below _ hb4)).trans ht5⟩
     ·have HT3:=Lib.hid (HT2.trans (if_neg hE0))
      rw [HT3.out]
      clear HT2
      go_enter Tryz.func45,Tryz.ntmps45
      go_wp2_with (first | (go_at_call 70;refine RD.out.mono ?_;rintro en w1 ⟨rfl,b1,n1,n2,A1,hpm,ht⟩;have HM:=Lib.hid hpm;have HT1:=Lib.hid ht;clear hpm ht) | (go_at_call 124;refine (OP2.out _).mono ?_;rintro en w2 ⟨A2,c2,rfl,hss,hb2⟩;have HB2:=Lib.hid (hb2.alloc hb2.size (.cells #[.int .i64 k,.int .i64 l,.slice A2 cs.length c2] 114));clear hss) | (go_at_call 127;refine (SF.out _ _ _ _ _ (HM.out.below HB2.out)).mono ?_;rintro en w3 ⟨rfl,b3,n3,n4,A3,hpm3,ht3⟩;have HM3:=Lib.hid hpm3;have HT3:=Lib.hid ((HT1.out.trans (Turn.below _ HB2.out)).trans ht3);clear hpm3 ht3) | (go_at_call 122;refine (SB.out _).mono ?_;rintro e3 w4 ⟨rfl,hb4⟩) | (go_at_call 128;refine (PT.out _ _ _ _ _ (HM3.out.below hb4)).mono ?_;rintro en w5 ⟨rfl,b5,n5,n6,A5,hpm5,ht5⟩))
      go_ret2
      exact ⟨rfl,b5,n5,n6,A5,hpm5,(HT3.out.trans (Turn.below _ hb4)).trans ht5⟩
    ·have HA4:=Lib.hid (HA3.out.trans (if_neg hE0))
     have HT2:Hid (P.allocT=0):=by have:=HT.out;rw [HA4.out,if_neg hE0] at this;exact this
     rw [HA4.out,HT2.out]
     clear HA3 HT
     go_enter Tryz.func45,Tryz.ntmps45
     go_wp2_with (first | (go_at_call 70;refine RD.out.mono ?_;rintro en w1 ⟨rfl,b1,n1,n2,A1,hpm,ht⟩;have HM:=Lib.hid hpm;have HT1:=Lib.hid ht;clear hpm ht) | (go_at_call 124;refine (OP2.out _).mono ?_;rintro en w2 ⟨A2,c2,rfl,hss,hb2⟩;have HB2:=Lib.hid (hb2.alloc hb2.size (.cells #[.int .i64 k,.int .i64 l,.slice A2 cs.length c2] 114));clear hss) | (go_at_call 127;refine (SF.out _ _ _ _ _ (HM.out.below HB2.out)).mono ?_;rintro en w3 ⟨rfl,b3,n3,n4,A3,hpm3,ht3⟩;have HM3:=Lib.hid hpm3;have HT3:=Lib.hid ((HT1.out.trans (Turn.below _ HB2.out)).trans ht3);clear hpm3 ht3))
     go_ret2
     exact ⟨rfl,b3,n3,n4,A3,HM3.out,HT3.out⟩
 ·have HA2:=Lib.hid (HA.out.trans (if_neg hE0))
  have HT2:Hid (P.allocT=0):=by have:=HT.out;rw [HA2.out,if_neg hE0] at this;exact this
  rw [HA2.out,HT2.out]
  clear HA TX HT
  go_enter Tryz.func45,Tryz.ntmps45
  go_wp2_with (go_at_call 70;refine RD.out.mono ?_;rintro en w1 ⟨rfl,b1,n1,n2,A1,hpm,ht⟩;have HM:=Lib.hid hpm;have HT1:=Lib.hid ht;clear hpm ht)
  go_ret2
  exact ⟨rfl,b1,n1,n2,A1,HM.out,HT1.out⟩
theorem pool_Alloc (b:List (Option Nat)) (gd g m1 m2 p e h t:Nat) (A:List Nat) (P:Pl) (w:World) (H:PM w b gd g m1 m2 p e h t A P) (ok:P.ok) (fit:Fit P.L.D 4) :
 Calls Tryz.prog 45 #[.pointer (some ⟨p,0,none⟩)] w (AllocPost (allB b g m1 m2 p e h t A) w gd g p e h t P.alloc.1 P.allocT P.alloc.2):=by
 by_cases hf:P.free=0
 ·exact pool_grow b gd g m1 m2 p e h t A P w H ok (fit.less (by omega)) hf
 ·exact pool_reuse b gd g m1 m2 p e h t A P w H ok fit hf
set_option maxRecDepth 100000 in
set_option maxHeartbeats 6400000 in
theorem pool_Free (b:List (Option Nat)) (gd g m1 m2 p e h t:Nat) (A:List Nat) (P:Pl) (x:Int) (hx:in64' x) (w:World) (H:PM w b gd g m1 m2 p e h t A P) (ok:P.ok) (fit:Fit P.L.D 3) :
 Calls Tryz.prog 80 #[.pointer (some ⟨p,0,none⟩),.int .i64 x] w (RoomPost (allB b g m1 m2 p e h t A) w gd g p e h t (P.freeP x).1 (P.freeP x).2):=by
 have HP:=Lib.hid H
 by_cases hx0:x=0
 ·have HE:Hid (P.freeP x=(P,1)):=if_pos hx0
  rw [HE.out]
  subst hx0
  clear H ok fit
  go_enter Tryz.func80,Tryz.ntmps80
  go_wp2_with fail
  go_ret
  exact ⟨rfl,b,m1,m2,A,HP.out,Turn.refl _ _⟩
 ·have HE:Hid (P.freeP x=if (P.put x (sealS 3 P.free [])).2=0 then (P.put x (sealS 3 P.free [])).1.setFree x.toNat else P.put x (sealS 3 P.free [])):=if_neg hx0
  have e0:(x == 0)=false:=beq_eq_false_iff_ne.2 hx0
  have x5:w.cell? ⟨p,5,none⟩=some (.int .i64 P.free):=H.has.cell 5
  have SB:=Lib.hid (fun w=>seal_free P.free w)
  have SS1:(sealS 3 P.free []).size=1024:=seal_size (K:=3) (by omega) (by omega) ok.link (by decide)
  obtain ⟨S,hS⟩:∃ S,sealS 3 P.free []=S:=⟨_,rfl⟩
  obtain ⟨E3,hE3⟩:∃ E,sealE 3 P.free []=E:=⟨_,rfl⟩
  rw [hS] at HE SB SS1
  rw [hE3] at SB
  have PT:=Lib.hid (fun w1 (hq:PM w1 b gd g m1 m2 p e h t A P)=>pool_put b gd g m1 m2 p e h t A P x hx S w1 hq ok (fit.less (by omega)))
  have POK:=Lib.hid (put_ok ok x SS1)
  have PF:=Lib.hid (put_fit (k:=2) fit x S)
  have FEW:=Lib.hid ok.few
  have IN:Hid ((P.put x S).2=0→0≤x∧x<(P.pages:Int)):=fun h2=>by
   have h3:(P.get x).2=0:=by
    unfold Pl.put at h2
    by_cases h4:(P.get x).2=0
    ·exact h4
    ·rw [if_neg h4] at h2;exact h2
   obtain ⟨F0,f,hF,hfx,i0,i1⟩:=get_last ok h3
   exact ⟨i0,i1⟩
  obtain ⟨R,hR⟩:∃ R',(P.put x S).1=R':=⟨_,rfl⟩
  obtain ⟨E,hE⟩:∃ E,(P.put x S).2=E:=⟨_,rfl⟩
  have hPQ:P.put x S=(R,E):=by rw [← hR,← hE]
  rw [hPQ] at HE PT POK PF IN
  dsimp only at HE PT POK PF IN
  clear H ok fit hx0 hS hE3 hR hE hPQ SS1
  by_cases hE0:E=0
  ·subst hE0
   have HE2:=Lib.hid (HE.out.trans (if_pos rfl))
   obtain ⟨n,rfl⟩:∃ n:Nat,x=n:=⟨x.toNat,by have:=IN.out rfl;omega⟩
   have SF:=Lib.hid (fun b1 n1 n2 A1 w1 (hq:PM w1 b1 gd g n1 n2 p e h t A1 R)=>pool_setFree b1 gd g n1 n2 p e h t A1 R n (by have:=IN.out rfl;have:=FEW.out;omega) w1 hq POK.out PF.out)
   rw [HE2.out,Int.toNat_natCast]
   clear HE IN hx
   go_enter Tryz.func80,Tryz.ntmps80
   go_wp2_with (first
    | (go_at_call 122;refine (SB.out _).mono ?_;rintro e3 w1 ⟨rfl,hb1⟩;have HB1:=Lib.hid hb1)
    | (go_at_call 128;refine (PT.out _ (HP.out.below HB1.out)).mono ?_;rintro en w2 ⟨rfl,b2,n1,n2,A2,hpm,ht⟩)
    | (go_at_call 127;refine (SF.out _ _ _ _ _ hpm).mono ?_;rintro en w3 ⟨rfl,b3,n3,n4,A3,hpm3,ht3⟩))
   go_ret
   exact ⟨rfl,b3,n3,n4,A3,hpm3,((Turn.below _ HB1.out).trans ht).trans ht3⟩
  ·have HE2:=Lib.hid (HE.out.trans (if_neg hE0))
   rw [HE2.out]
   clear HE IN
   go_enter Tryz.func80,Tryz.ntmps80
   go_wp2_with (first
    | (go_at_call 122;refine (SB.out _).mono ?_;rintro e3 w1 ⟨rfl,hb1⟩;have HB1:=Lib.hid hb1)
    | (go_at_call 128;refine (PT.out _ (HP.out.below HB1.out)).mono ?_;rintro en w2 ⟨rfl,b2,n1,n2,A2,hpm,ht⟩))
   go_ret
   exact ⟨rfl,b2,n1,n2,A2,hpm,(Turn.below _ HB1.out).trans ht⟩
end Go.Proofs.YtjihboddejaelaaGreat
namespace Go.Proofs.YtjihboddejaelaaGreat
open Go.RowKit
open Go.BigFrame
open Go.Maps
theorem ranges_same {R:Value→Option (DataW Unit×List MemPlace)} {w w':World} {b r n cnt:Nat} {D:DataW Unit} {left:Lit→Bool} (h:w.ranges Tryz.prog 3 R b r n D left cnt) (hb':w'.heap[b]? = w.heap[b]?) (hr':w'.heap[r]? = w.heap[r]?):w'.ranges Tryz.prog 3 R b r n D left cnt:=by
 obtain ⟨es,clock,since,seen,c0,hb,F,hs,hD,hr,rest⟩:=h
 exact ⟨es,clock,since,seen,c0,hb'.trans hb,F,hs,hD,hr'.trans hr,rest⟩
theorem fr_inv {v:Value} {y:DataW Unit×List MemPlace} (h:frElem v=some y):∃ c,v=ptrO c:=by
 unfold frElem at h
 split at h
 ·exact ⟨none,rfl⟩
 ·exact ⟨some _,rfl⟩
 ·cases h
theorem says_some {D:DataW Unit} {g:Int→Option Nat} (h:Says D g) {x:Int} {d:DataW Unit} (hat:∀ zd,D.atKey (.int .i64 x) zd=d):∃ c,g x=some c∧d = .lit (.int .i64 (c:Int)):=by
 cases hg:g x with
 | none =>
   exfalso
   have h1:=(h x).1 hg
   have h2:=hat (.lit (.int .i64 0))
   have h3:=hat (.lit (.int .i64 1))
   rw [atKey_of_not_has h1] at h2 h3
   rw [← h2] at h3
   cases h3
 | some c =>
   have h2:=hat (.lit (.int .i64 0))
   rw [(h x).2 c hg] at h2
   exact ⟨c,rfl,h2.symm⟩
theorem wpList_next_fr (w:World) {ops:Array Oper} {rest:List Oper} {o:Oper} {a:Act} {Q:Exit→Act→World→Prop} (hg:o.guard=none) (it:Operand) (hop:o.op=Op.next it false) (b r n:Nat) (D:DataW Unit) (left:Lit→Bool) (cnt:Nat)
 (hit:a.eval it = .pointer (some ⟨r,0,none⟩)) (h:w.ranges Tryz.prog 3 frElem b r n D left cnt) (g:Int→Option Nat) (hs:Says D g)
 (hDone:cnt=0→(∀ kl,left kl=false)→wpList Tryz.prog ops Q rest (a.put o.dst (.tuple #[.bool false])) w)
 (hMore:∀ (x:Int) (c:Nat) (w':World) (cnt':Nat),g x=some c→left (.int .i64 x)=true→w'.ranges Tryz.prog 3 frElem b r n D (fun z=>left z && !z.sameKey (.int .i64 x)) cnt'→cnt'<cnt →
   w.grownBy w' (some r)→w'.heap.size=w.heap.size→(Instr.entry (.pointer (some ⟨r,0,none⟩))).run Tryz.prog w' = .ok (.tuple #[.int .i64 x,ptrB c]) w'→wpList Tryz.prog ops Q rest (a.put o.dst (.tuple #[.bool true,.int .i64 x,ptrB c])) w') :
 wpList Tryz.prog ops Q (o :: rest) a w :=
 wpList_next_ranges w hg it hop 3 lawInt frElem (Value.int .i64) ptrO (fun key kl hkey=>by obtain ⟨x,rfl,_⟩:=Maps.keyOf_int_inv Tryz.underlying3 hkey;exact ⟨x,rfl⟩) (fun v y hv=>fr_inv hv)
  b r n D left cnt hit h hDone (fun x c kl y w' cnt' hkey hlk hv hat hrg hlt hgr hsz hen=>by
    obtain ⟨x',ex,rfl,hwx⟩:=Maps.keyOf_int_inv Tryz.underlying3 hkey
    cases ex
    obtain ⟨d,hd1,hd2⟩:=says_some hs hat
    obtain ⟨y1,y2⟩:=y
    dsimp only at hd2
    subst hd2
    rcases frElem_inv hv with ⟨e1,_⟩ | ⟨z,e1,e2⟩
    ·omega
    ·have:z=d:=by omega
     subst this
     have hc:ptrO c=ptrB z:=e2
     rw [hc] at hen ⊢
     exact hMore x z w' cnt' hd1 hlk hrg hlt hgr hsz hen)
theorem heldOf_split:∀ {A:List Nat} {F:List Pf} {x:Int} {a:Nat},heldOf A F x=some a→∃ A1 A2 F1 f F2,A=A1++a :: A2∧F=F1++f :: F2∧A1.length=F1.length∧(f.n:Int)=x
 | [],_,_,_,h=>by cases ‹List Pf› <;> cases h
 | _ :: _,[],_,_,h=>by cases h
 | a0 :: A,f0 :: F,x,a,h=>by
   rw [heldOf] at h
   by_cases hx:(f0.n:Int)=x
   ·rw [if_pos hx] at h
    cases h
    exact ⟨[],A,[],f0,F,rfl,rfl,rfl,hx⟩
   ·rw [if_neg hx] at h
    obtain ⟨A1,A2,F1,f,F2,h1,h2,h3,h4⟩:=heldOf_split h
    exact ⟨a0 :: A1,A2,f0 :: F1,f,F2,by rw [h1];rfl,by rw [h2];rfl,by simp [h3],h4⟩
theorem turnOf_mem {T:List Nat} {x:Int} {c:Nat} (h:turnOf T x=some c):∃ n∈T,(n:Int)=x:=by
 unfold turnOf at h
 split at h
 ·assumption
 ·cases h
section
variable {w w':World} {b b':List (Option Nat)} {gd g m1 m2 m1' m2' p e h t:Nat} {A A1 A2:List Nat} {a:Nat} {P:Pl}
theorem pm_Back (H:PM w b gd g m1 m2 p e h t A P) (ok:P.L.ok) :
 Calls Tryz.prog 163 #[ptrB g] w (PmPost (allB b g m1 m2 p e h t A) w gd g p e h t A { P with L:=P.L.back } (.tuple #[])):=by
 refine (wal_Back b gd g m1 m2 P.L.rw w H.log (show P.L.kept≤_ by have:=ok.len;have:=ok.kept;omega)).mono fun en w' hp=>?_
 rw [← rw_back ok] at hp
 obtain ⟨he,b',m1',m2',h1,h2⟩:=hp
 obtain ⟨h3,h4⟩:=H.onLog h1 h2
 exact ⟨he,b',m1',m2',h3,h4⟩
end
end Go.Proofs.YtjihboddejaelaaGreat
namespace Go.Proofs.YtjihboddejaelaaGreat
open Go.RowKit
open Go.BigFrame
def Pl.fresh (L:Lg) (most:Nat):Pl:=⟨L,most,[],L.pages,0,[],0,0,0⟩
def Pl.forgot (L:Lg) (most:Nat):Pl×Int :=
 if L.rw.readE 0=0 then
  match openP (L.rw.readS 0) with
  | none=>(Pl.fresh L most,4)
  | some pg=>({ Pl.fresh L most with free:=pg.2.1 },0)
 else (Pl.fresh L most,L.rw.readE 0)
theorem make_fr (w:World):(Instr.makeMap 103 none).run Tryz.prog w = .ok (.map (some w.heap.size)) (w.alloc (.map #[] 0)):=rfl
theorem make_ii (w:World):(Instr.makeMap 104 none).run Tryz.prog w = .ok (.map (some w.heap.size)) (w.alloc (.map #[] 0)):=rfl
def newCells (g most:Nat):Array Value:=#[ptrB g,.int .i64 most,.pointer none,.map none,.int .i64 0,.int .i64 0,.map none,.int .i64 0,.int .i64 0,.int .i64 0]
def ForgetPost (w:World) (b:List (Option Nat)) (gd g m1 m2 p:Nat) (P:Pl) (E:Int) (en:Ending) (w':World):Prop :=
 en = .returned (.int .i64 E)∧∃ e h t,PM w' b gd g m1 m2 p e h t [] P∧Turn (some p :: (b++lb g m1 m2)) (allB b g m1 m2 p e h t []) w w'
theorem Turn.more {b b':List (Option Nat)} {w w':World} (h:Turn b b' w w') {a:Nat} (ha:w.heap.size≤a):Turn b (some a :: b') w w' :=
 ⟨h.os,h.tape,h.output,h.size,h.block,fun k hk=>by
   rcases List.mem_cons.1 hk with hk | hk
   ·cases hk;exact .inr ha
   ·exact h.new k hk⟩
theorem PM.made {w:World} {b:List (Option Nat)} {gd g m1 m2 p n0 n1 n2:Nat} {L:Lg} {most:Nat} (hl:LR w b gd g m1 m2 L.rw) (hp:Has w p 106 #[ptrB g,.int .i64 most,ptrB n0,.map (some n1),.int .i64 0,.int .i64 0,.map (some n2),.int .i64 0,.int .i64 0,.int .i64 0])
 (h0:Has w n0 166 (frC pf0 n0 n0)) (h1:GM frElem w n1 (fun _=>none) 0) (h2:GM (plainElem Tryz.prog 3) w n2 (fun _=>none) 0) (hp0:p≠n0) (hn:n1≠n2) (hd:Disj (b++lb g m1 m2) (pb p n0 n1 n2 [])) :
 PM w b gd g m1 m2 p n0 n1 n2 [] { Pl.fresh L most with pages:=0 } :=
 ⟨hl,hp,⟨by simp,h0,rfl⟩,h1.congr (fun x=>rfl),h2.congr (fun x=>by unfold turnOf;rw [if_neg];rintro ⟨m,hm,_⟩;cases hm),by simpa using hp0,hn,hd⟩
set_option maxRecDepth 100000 in
set_option maxHeartbeats 6400000 in
theorem pool_forget (b:List (Option Nat)) (gd g m1 m2 p:Nat) (L:Lg) (most:Nat) (w:World) (hl:LR w b gd g m1 m2 L.rw) (ok:L.ok) (hp:Has w p 106 (newCells g most)) (hoff:some p∉b++lb g m1 m2) :
 Calls Tryz.prog 42 #[.pointer (some ⟨p,0,none⟩)] w (ForgetPost w b gd g m1 m2 p (Pl.forgot L most).1 (Pl.forgot L most).2):=by
 have HL:=Lib.hid hl
 have HP:=Lib.hid hp
 have OFF:=Lib.hid hoff
 have plt:=hp.lt
 have PLT:=Lib.hid hp.lt
 have hm1:=make_fr
 have hm2:=make_ii
 have x2:w.cell? ⟨p,2,none⟩=some (.pointer none):=hp.cell 2
 have xf:=hp.frozen
 have OK:=Lib.hid ok
 clear hl hp hoff ok
 go_enter Tryz.func42,Tryz.ntmps42
 go_upto_region 2 with fail
 obtain ⟨n0,hn0⟩:∃ n,w.heap.size=n:=⟨_,rfl⟩
 have P1:=Lib.hid ((HP.out.set 2 (ptrB n0)).alloc (.cells #[.int .i64 0,.string ⟨#[]⟩,.int .i64 0,.bool false,.pointer none,.pointer none] 166))
 have N1:=Lib.hid (Has.new (w.setCell ⟨p,2,none⟩ (ptrB n0)) 166 #[.int .i64 0,.string ⟨#[]⟩,.int .i64 0,.bool false,.pointer none,.pointer none])
 have e0:(w.setCell ⟨p,2,none⟩ (ptrB n0)).heap.size=n0:=by rw [← hn0];simp
 rw [e0] at N1
 have T1:=Lib.hid ((set_turn [some p] p 2 (ptrB n0) w (List.mem_singleton.2 rfl)).trans (Turn.below [some p] ((Below.refl _ (w.setCell ⟨p,2,none⟩ (ptrB n0))).alloc (Nat.le_refl _) (.cells #[.int .i64 0,.string ⟨#[]⟩,.int .i64 0,.bool false,.pointer none,.pointer none] 166))))
 have Z1:Hid (((w.setCell ⟨p,2,none⟩ (ptrB n0)).alloc (.cells #[.int .i64 0,.string ⟨#[]⟩,.int .i64 0,.bool false,.pointer none,.pointer none] 166)).heap.size=n0+1):=Lib.hid (by rw [World.size_alloc,e0])
 rw [hn0] at plt
 simp only [hn0]
 have HN0:=Lib.hid hn0
 clear hn0 x2 xf e0
 generalize (w.setCell ⟨p,2,none⟩ (ptrB n0)).alloc (.cells #[.int .i64 0,.string ⟨#[]⟩,.int .i64 0,.bool false,.pointer none,.pointer none] 166)=W at *
 have y2:W.cell? ⟨p,2,none⟩=some (ptrB n0):=P1.out.cell 2
 have z4:W.cell? ⟨n0,4,none⟩=some (.pointer none):=N1.out.cell 4
 have z5:W.cell? ⟨n0,5,none⟩=some (.pointer none):=N1.out.cell 5
 have zf:=N1.out.frozen
 go_region
 have pn:¬ p=n0:=by omega
 have P2:=Lib.hid ((P1.out.far (p:=⟨n0,4,none⟩) pn (ptrB n0)).far (p:=⟨n0,5,none⟩) pn (ptrB n0))
 have N2:Hid (Has ((W.setCell ⟨n0,4,none⟩ (ptrB n0)).setCell ⟨n0,5,none⟩ (ptrB n0)) n0 166 (frC pf0 n0 n0)):=(N1.out.set 4 (ptrB n0)).set 5 (ptrB n0)
 have T2:=Lib.hid (((T1.out.more (a:=n0) (Nat.le_of_eq HN0.out)).trans (set_turn _ n0 4 (ptrB n0) W (List.mem_cons_self ..))).trans (set_turn _ n0 5 (ptrB n0) _ (List.mem_cons_self ..)))
 have Z2:Hid (((W.setCell ⟨n0,4,none⟩ (ptrB n0)).setCell ⟨n0,5,none⟩ (ptrB n0)).heap.size=n0+1):=Lib.hid (by simp;exact Z1.out)
 clear y2 z4 z5 zf pn
 generalize (W.setCell ⟨n0,4,none⟩ (ptrB n0)).setCell ⟨n0,5,none⟩ (ptrB n0)=V at *
 have v3:V.cell? ⟨p,3,none⟩=some (.map none):=P2.out.cell 3
 have v6:V.cell? ⟨p,6,none⟩=some (.map none):=P2.out.cell 6
 have vf:=P2.out.frozen
 have vz:=P2.out.lt
 go_upto_region 5 with fail
 obtain ⟨n1,hn1⟩:∃ n,V.heap.size=n:=⟨_,rfl⟩
 simp only [hn1]
 obtain ⟨n2,hn2⟩:∃ n,n1+1=n:=⟨_,rfl⟩
 simp only [hn2]
 have e1:n0+1=n1:=by rw [← hn1];exact Z2.out.symm
 have P3:=(P2.out.set 3 (.map (some n1))).set 6 (.map (some n2))
 have N3:=(N2.out.far (p:=⟨p,3,none⟩) (by show ¬ n0=p;omega) (.map (some n1))).far (p:=⟨p,6,none⟩) (by show ¬ n0=p;omega) (.map (some n2))
 have L3:=(HL.out.far T2.out (fun k hk h2=>OFF.out (List.mem_singleton.1 hk ▸ h2))).far ((set_turn [some p] p 3 (.map (some n1)) V (List.mem_singleton.2 rfl)).trans (set_turn [some p] p 6 (.map (some n2)) _ (List.mem_singleton.2 rfl))) (fun k hk h2=>OFF.out (List.mem_singleton.1 hk ▸ h2))
 have T3:=(T2.out.trans (set_turn _ p 3 (.map (some n1)) V (List.mem_cons_of_mem _ (List.mem_singleton.2 rfl)))).trans (set_turn _ p 6 (.map (some n2)) _ (List.mem_cons_of_mem _ (List.mem_singleton.2 rfl)))
 have z3:((V.setCell ⟨p,3,none⟩ (.map (some n1))).setCell ⟨p,6,none⟩ (.map (some n2))).heap.size=n1:=by simp [hn1]
 clear v3 v6 vf vz hn1
 generalize (V.setCell ⟨p,3,none⟩ (.map (some n1))).setCell ⟨p,6,none⟩ (.map (some n2))=U at *
 have M1:=(GM.made frElem U).below ((Below.refl _ _).alloc (Nat.le_refl _) (.map #[] 0))
 have M2:=GM.made (plainElem Tryz.prog 3) (U.alloc (.map #[] 0))
 rw [World.size_alloc,z3,hn2] at M2
 rw [z3] at M1
 have hU:Below U.heap.size U ((U.alloc (.map #[] 0)).alloc (.map #[] 0)):=((Below.refl _ _).alloc (Nat.le_refl _) _).alloc (by simp) _
 have hlt:=fun (k:Nat) (hk:some k∈b++lb g m1 m2)=>HL.out.lt hk
 have PMX:PM ((U.alloc (.map #[] 0)).alloc (.map #[] 0)) b gd g m1 m2 p n0 n1 n2 [] { Pl.fresh L most with pages:=0 }:=by
  refine PM.made (L3.below hU) (P3.belowS hU) (N3.belowS hU) M1 M2 (by omega) (by omega) (fun k h1 h2=>?_)
  have h4:=hlt k h1
  have h5:=HN0.out
  rcases mem_pb.1 h2 with rfl | rfl | rfl | h2
  ·exact OFF.out h1
  ·omega
  ·omega
  ·have:k=n0:=by simpa using h2
   omega
 have TX:Turn [some p] (pb p n0 n1 n2 []) w ((U.alloc (.map #[] 0)).alloc (.map #[] 0)):=by
  have h1:=T3.trans (Turn.below _ hU)
  refine ⟨h1.os,h1.tape,h1.output,h1.size,h1.block,fun k hk=>?_⟩
  have h5:=HN0.out
  rcases mem_pb.1 hk with rfl | rfl | rfl | h2
  ·exact .inl (List.mem_singleton.2 rfl)
  ·exact .inr (by omega)
  ·exact .inr (by omega)
  ·have:k=n0:=by simpa using h2
   exact .inr (by omega)
 have HX:=Lib.hid (PMX.below ((Below.refl _ _).drew))
 have HTX:=Lib.hid ((TX.trans (Turn.below _ ((Below.refl _ ((U.alloc (.map #[] 0)).alloc (.map #[] 0))).drew))).left (b++lb g m1 m2) |>.wide (c:=some p :: (b++lb g m1 m2)) (c':=allB b g m1 m2 p n0 n1 n2 []) (fun k hk=>by
  rcases List.mem_append.1 hk with hk | hk
  ·rw [List.mem_singleton.1 hk];exact List.mem_cons_self ..
  ·exact List.mem_cons_of_mem _ hk) (fun k hk=>by
  rcases List.mem_append.1 hk with hk | hk
  ·exact .inr (List.mem_cons_of_mem _ hk)
  ·exact .inl (List.mem_append_left _ hk)))
 have hPU:p<U.heap.size:=P3.lt
 clear P3 N3 L3 T3 M1 M2 hU hlt PMX TX HL HP OFF plt PLT hm1 hm2 HN0 P1 N1 T1 Z1 P2 N2 T2 Z2 e1 hn2 z3 hPU
 generalize (((U.alloc (.map #[] 0)).alloc (.map #[] 0)).drew)=Y at *
 have y0:Y.cell? ⟨p,0,none⟩=some (ptrB g):=HX.out.has.cell 0
 have y4:Y.cell? ⟨p,4,none⟩=some (.int .i64 0):=HX.out.has.cell 4
 have y5:Y.cell? ⟨p,5,none⟩=some (.int .i64 0):=HX.out.has.cell 5
 have yf:=HX.out.has.frozen
 have yz:=HX.out.has.lt
 have PG:=Lib.hid (wal_Pages b gd g m1 m2 L.rw Y HX.out.log)
 have S4:=Lib.hid (HX.out.set (P':=Pl.fresh L most) 4 (.int .i64 L.pages) rfl rfl rfl rfl)
 have RD:=Lib.hid (pm_Read S4.out.1 OK.out 0)
 have HF:Hid (Pl.forgot L most=if L.rw.readE 0=0 then (match openP (L.rw.readS 0) with
  | none=>(Pl.fresh L most,4)
  | some pg=>({ Pl.fresh L most with free:=pg.2.1 },0)) else (Pl.fresh L most,L.rw.readE 0)):=rfl
 have RS:Hid (L.rw.readE 0=0→(L.rw.readS 0).size=1024):=fun h=>read_size OK.out h
 have e2:(Pl.fresh L most).L=L:=rfl
 rw [e2] at RD
 obtain ⟨T,hT⟩:∃ T,L.rw.readS 0=T:=⟨_,rfl⟩
 obtain ⟨E,hE⟩:∃ E,L.rw.readE 0=E:=⟨_,rfl⟩
 rw [hT,hE] at RD HF RS
 have PG2:Hid (Calls Tryz.prog 39 #[ptrB g] Y fun e w'=>e = .returned (.int .i64 L.pages)∧Y=w'):=PG.out
 clear hT hE e2 PG
 by_cases hE0:E=0
 ·subst hE0
  have HF2:=Lib.hid (HF.out.trans (if_pos rfl))
  have TZ:T.size≤1048576:=by have:=RS.out rfl;omega
  have OP:=Lib.hid (fun w=>page_Open T TZ w)
  clear HF TZ RS
  cases ho:openP T with
  | none =>
    have OP2:Hid (∀ w,Calls Tryz.prog 124 #[.string T] w fun e w'=>e = .returned (.tuple #[.agg #[.int .i64 0,.int .i64 0,.slice none 0 0],.int .i64 4])∧Below w.heap.size w w'):=fun w=>by
     have:=OP.out w
     rw [ho] at this;exact this
    have HF3:Hid (Pl.forgot L most=(Pl.fresh L most,4)):=by have:=HF2.out;rw [ho] at this;exact this
    clear OP HF2 ho
    go_wp2_with (first
     | (go_at_call 39;refine PG2.out.mono ?_;rintro en w1 ⟨rfl,rfl⟩)
     | (go_at_call 123;refine RD.out.mono ?_;rintro en w1 ⟨rfl,rfl⟩)
     | (go_at_call 124;refine (OP2.out _).mono ?_;rintro en w2 ⟨rfl,hb2⟩;obtain ⟨hc,hf2⟩:=bcell hb2;have hz:=hb2.size;(try simp at hz);have hz0:p<w2.heap.size:=(by omega)))
    go_ret
    rw [HF3.out]
    have q1:=S4.out.1.below hb2
    have q2:=q1.set (P':=Pl.fresh L most) 5 (.int .i64 0) rfl rfl rfl rfl
    have q3:Below (w2.setCell ⟨p,5,none⟩ (.int .i64 0)).heap.size (w2.setCell ⟨p,5,none⟩ (.int .i64 0)) ((w2.setCell ⟨p,5,none⟩ (.int .i64 0)).alloc (.cells #[.int .i64 0,.int .i64 0,.slice none 0 0] 114)):=(Below.refl _ _).alloc (Nat.le_refl _) _
    exact ⟨rfl,n0,n1,n2,q2.1.below q3,(((HTX.out.trans S4.out.2).trans (Turn.below _ hb2)).trans q2.2).trans (Turn.below _ q3)⟩
  | some pg =>
    obtain ⟨k,l,cs⟩:=pg
    have OP2:Hid (∀ w,Calls Tryz.prog 124 #[.string T] w fun e w'=>∃ A c,e = .returned (.tuple #[.agg #[.int .i64 k,.int .i64 l,.slice A cs.length c],.int .i64 0])∧SS w' A cs.length cs∧Below w.heap.size w w'):=fun w=>by
     have:=OP.out w
     rw [ho] at this;exact this
    have HF3:Hid (Pl.forgot L most=({ Pl.fresh L most with free:=l },0)):=by have:=HF2.out;rw [ho] at this;exact this
    clear OP HF2 ho
    go_wp2_with (first
     | (go_at_call 39;refine PG2.out.mono ?_;rintro en w1 ⟨rfl,rfl⟩)
     | (go_at_call 123;refine RD.out.mono ?_;rintro en w1 ⟨rfl,rfl⟩)
     | (go_at_call 124;refine (OP2.out _).mono ?_;rintro en w2 ⟨A2,c2,rfl,hss,hb2⟩;clear hss;obtain ⟨hc,hf2⟩:=bcell hb2;have hz:=hb2.size;(try simp at hz);have hz0:p<w2.heap.size:=(by omega)))
    go_ret
    rw [HF3.out]
    have q1:=S4.out.1.below hb2
    have q2:=q1.set (P':={ Pl.fresh L most with free:=l }) 5 (.int .i64 l) rfl rfl rfl rfl
    have q3:Below (w2.setCell ⟨p,5,none⟩ (.int .i64 l)).heap.size (w2.setCell ⟨p,5,none⟩ (.int .i64 l)) ((w2.setCell ⟨p,5,none⟩ (.int .i64 l)).alloc (.cells #[.int .i64 k,.int .i64 l,.slice A2 cs.length c2] 114)):=(Below.refl _ _).alloc (Nat.le_refl _) _
    exact ⟨rfl,n0,n1,n2,q2.1.below q3,(((HTX.out.trans S4.out.2).trans (Turn.below _ hb2)).trans q2.2).trans (Turn.below _ q3)⟩
 ·have HF2:=Lib.hid (HF.out.trans (if_neg hE0))
  clear HF RS
  go_wp2_with (first
   | (go_at_call 39;refine PG2.out.mono ?_;rintro en w1 ⟨rfl,rfl⟩)
   | (go_at_call 123;refine RD.out.mono ?_;rintro en w1 ⟨rfl,rfl⟩))
  go_ret
  rw [HF2.out]
  exact ⟨rfl,n0,n1,n2,S4.out.1,HTX.out.trans S4.out.2⟩
end Go.Proofs.YtjihboddejaelaaGreat
