/-
  page.Open: the cells that it answers lie in a block of their own.
-/
import Derived.Test.YtjihboddejaelaaGreatTs1
import Derived.Test.YtjihboddejaelaaGreatTs7
import Derived.Test.YtjihboddejaelaaGreatTs13
import Derived.Deep.RegionHeld3
import Derived.Deep.RegionLaw
import Derived.Deep.AppendLies
import Derived.Test.YtjihboddejaelaaGreatShelf
import Derived.Shelf.Spec.SlicesInsert
import Derived.Shelf.Spec.SlicesInsertGrow
import Derived.Test.YtjihboddejaelaaGreatTs4
import Derived.RegionTactic
import Derived.BigRegion
set_option linter.unusedVariables false
set_option linter.unusedSimpArgs false
set_option maxRecDepth 100000
set_option maxHeartbeats 100000000
namespace Go.Proofs.YtjihboddejaelaaGreat
open Go.RowKit Go.BigFrame
attribute [local go_sem] Fv Cj Bq Act.put

end Go.Proofs.YtjihboddejaelaaGreat
namespace Go.Proofs.YtjihboddejaelaaGreat
open Go.RowKit Go.BigFrame
theorem Turn.has {X X':List (Option Nat)} {w w':World} {g:Nat} {t:TypeId} {cs:Array Value} (ht:Turn X X' w w') (h:Has w g t cs) (hg:some g∉X):Has w' g t cs:=(ht.block g h.lt hg).trans h
theorem Turn.out {X X':List (Option Nat)} {w w':World} {g:Nat} (ht:Turn X X' w w') (hg:some g∉X) (hl:g<w.heap.size):some g∉X':=fun h=>by
 rcases ht.new g h with h | h
 ·exact hg h
 ·omega
theorem Has.Me {w:World} {g:Nat} {t:TypeId} {a b c d x y z u:Value} (h:Has w g t #[a,b,c,d]):Has ((((w.setCell ⟨g,0,none⟩ x).setCell ⟨g,1,none⟩ y).setCell ⟨g,2,none⟩ z).setCell ⟨g,3,none⟩ u) g t #[x,y,z,u]:=(((h.set 0 x).set 1 y).set 2 z).set 3 u
theorem Turn.Di {X X':List (Option Nat)} {w w':World} (h:Turn X X' w w') {g:Nat} (hg:w.heap.size≤g) (i:Nat) (v:Value):Turn X X' w (w'.setCell ⟨g,i,none⟩ v) :=
 ⟨h.os,h.tape,h.output,by have:=h.size;simpa using this,fun k hk hn=>(Below.heap_setCell _ _ _ _ (fun e=>by have:k=g:=e;omega)).trans (h.block k hk hn),h.new⟩
theorem Turn.next {X X':List (Option Nat)} {w w' w2:World} (h:Turn X X' w w') (hb:Below w'.heap.size w' w2):Turn X X' w w2:=h.trans (Turn.below _ hb)
theorem PT.set {w:World} {X:List (Option Nat)} {p c k:Nat} {S S0:St} (h:PT w X p S S0 c k) {g:Nat} (hg:some g∉X) (i:Nat) (v:Value):PT (w.setCell ⟨g,i,none⟩ v) X p S S0 c k :=
 h.far (Ez [some g] g i v w (List.mem_singleton.2 rfl)) fun k hk=>by cases List.mem_singleton.1 hk;exact hg
theorem VZ0 {X:List (Option Nat)} {w':World} {base:Nat} {e:TypeId} {v:Value} {n:Nat} {xs:List Value} (h:w'.ownsRow base e 1 v n xs) (hX:∀ i,some i∈X→i<base):∀ g,v.ownBlock=some g→some g∉X:=fun g hg hm=>by
 have:=(h.lt g hg).1;have:=hX g hm;omega
structure TM (w:World) (X:List (Option Nat)) (tb p root:Nat):Prop where
 has:Has w tb 111 #[.pointer (some ⟨p,0,none⟩),.int .i64 root]
 out:some tb∉X
theorem TM.turn {X X':List (Option Nat)} {w w':World} {tb p root:Nat} (h:TM w X tb p root) (ht:Turn X X' w w'):TM w' X' tb p root:=⟨ht.has h.has h.out,ht.out h.out h.has.lt⟩
theorem TM.below {X:List (Option Nat)} {w w':World} {tb p root:Nat} (h:TM w X tb p root) (hb:Below w.heap.size w w'):TM w' X tb p root:=⟨h.has.Aj hb,h.out⟩
theorem TM.set {w:World} {X:List (Option Nat)} {tb p root g:Nat} (h:TM w X tb p root) (hg:tb≠g) (i:Nat) (v:Value):TM (w.setCell ⟨g,i,none⟩ v) X tb p root:=⟨h.has.far hg v,h.out⟩
def CH1 (X:List (Option Nat)) (w:World) (p:Nat) (S S0:St) (c k n:Nat) (pg:Pg) (en:Ending) (w':World):Prop :=
 ∃ A cp X',en = .returned (ndV n pg.1 pg.2.1 (.slice A pg.2.2.length cp))∧PT w' X' p S S0 c k∧Turn X X' w w'∧w'.ownsRow w.heap.size 9 1 (.slice A pg.2.2.length cp) pg.2.2.length (strs pg.2.2)∧∀ g,(Value.slice A pg.2.2.length cp).ownBlock=some g→some g∉X'
theorem MS0 {w:World} {X:List (Option Nat)} {tb p root c k n:Nat} {S S0:St} (h:PT w X p S S0 c k) (ht:TM w X tb p root) (hc:c≤60000) (hk:k≤900000000) (hn:n<S.q) (hp:Qq (S.G n)) :
 Calls Tryz.prog 138 #[.pointer (some ⟨tb,0,none⟩),.int .i64 n] w (CH1 X w p S S0 c (k+1) n (S.G n)):=by
 have HP:=Ac h;have HT:=Ac ht
 have RD:=Ac (fun W (h:PT W X p S S0 c k)=>WG0 h hc hk hn)
 have OP:=Ac (fun W=>Zn (Kw (S.G n)) (by rw [Qh hp];decide) W)
 rw [FY0 hp] at OP;obtain ⟨s,hs⟩:∃ s,Kw (S.G n)=s:=⟨_,rfl⟩;obtain ⟨pg,hpg⟩:∃ pg,S.G n=pg:=⟨_,rfl⟩;rw [hs] at RD OP;rw [hpg] at OP ⊢;have t0:=ht.has.cells2.1;have tz:=ht.has.lt;have r0:=Has.new w 116 #[.int .i64 0,.int .i64 0,.int .i64 0,.slice none 0 0];have R0:=Ac r0;have B0:=Ac (Ag w (.cells #[.int .i64 0,.int .i64 0,.int .i64 0,.slice none 0 0] 116));have ltx:=Ac h.lt;clear h ht hc hk hn hp hs hpg r0
 go_enter Tryz.func138,Tryz.ntmps138
 go_wp2_with (first
  | (go_at_call 70;refine (RD.out _ (HP.out.below B0.out)).mono ?_;rintro en w1 ⟨rfl,X1,hp1,ht1⟩;have HP1:=Ac hp1;have HT1:=Ac ht1;have R1:=Ac (ht1.has R0.out (fun hm=>by have:=ltx.out _ hm;omega));clear hp1 ht1)
  | (go_at_call 129;refine (Et _).mono ?_;rintro e w1 ⟨rfl,rfl⟩)
  | (go_at_call 124;refine (OP.out _).mono ?_;rintro en w2 ⟨A,cp,rfl,ho2,hb2⟩;have HO2:=Ac ho2;have HB2:=Ac hb2;have r2:=R1.out.Aj hb2;have R2:=Ac r2;have f2:=r2.frozen;have z2:=r2.lt;obtain ⟨x0,x1,x2,x3⟩:=r2.cells4;clear r2 ho2 hb2))
 refine bodyPost_ret (v:=ndV n pg.1 pg.2.1 (.slice A pg.2.2.length cp)) (by simp [results,Tryz.results138,go_sem, *]) rfl ?_
 have ltx1:=HP1.out.lt;have zz:=HT1.out.size
 have nR:some w.heap.size∉X1:=HT1.out.out (fun hm=>by have:=ltx.out _ hm;omega) (by simp)
 simp at zz
 refine ⟨A,cp,X1,rfl, ?_, ?_, ?_, ?_⟩
 ·exact (((((HP1.out.below HB2.out).set nR _ _).set nR _ _).set nR _ _).set nR _ _).below (Ag _ _)
 ·exact (((((((Turn.below X B0.out).trans HT1.out).next HB2.out).Di (Nat.le_refl _) _ _).Di (Nat.le_refl _) _ _).Di (Nat.le_refl _) _ _).Di (Nat.le_refl _) _ _).next (Ag _ _)
 ·have o1:=ownsRow_setCell_below (a:=⟨w.heap.size,0,none⟩) HO2.out (by show w.heap.size<_;omega) (.int .i64 n)
  have o2:=ownsRow_setCell_below (a:=⟨w.heap.size,1,none⟩) o1 (by show w.heap.size<_;omega) (.int .i64 pg.1)
  have o3:=ownsRow_setCell_below (a:=⟨w.heap.size,2,none⟩) o2 (by show w.heap.size<_;omega) (.int .i64 pg.2.1)
  have o4:=ownsRow_setCell_below (a:=⟨w.heap.size,3,none⟩) o3 (by show w.heap.size<_;omega) (.slice A pg.2.2.length cp)
  exact own_base (own_below o4 (Ag _ _)) (by omega)
 ·exact VZ0 HO2.out fun i hi=>by have:=ltx1 i hi;omega
theorem Gg {w:World} {X:List (Option Nat)} {tb p root c k n:Nat} {S S0:St} (h:PT w X p S S0 c k) (ht:TM w X tb p root) (hc:c≤60000) (hk:k≤900000000) (hn:n<S.q) (hp:Qq (S.G n)) (h12:(S.G n).1=1∨(S.G n).1=2) :
 Calls Tryz.prog 62 #[.pointer (some ⟨tb,0,none⟩),.int .i64 n] w (CH1 X w p S S0 c (k+1) n (S.G n)):=by
 have HP:=Ac h;have HT:=Ac ht
 have PG:=Ac (fun W (h:PT W X p S S0 c k) (ht:TM W X tb p root)=>MS0 h ht hc hk hn hp)
 obtain ⟨pg,hpg⟩:∃ pg,S.G n=pg:=⟨_,rfl⟩;rw [hpg] at PG h12 ⊢;have R0:=Ac (Has.new w 116 #[.int .i64 0,.int .i64 0,.int .i64 0,.slice none 0 0]);have B0:=Ac (Ag w (.cells #[.int .i64 0,.int .i64 0,.int .i64 0,.slice none 0 0] 116));have ltx:=Ac h.lt;clear h ht hc hk hn hp hpg
 rcases h12 with h1 | h1
 all_goals
  first
   | (have n1:((pg.1:Int) != 1)=false:=(by rw [h1];rfl);have n2:((pg.1:Int) != 2)=true:=(by rw [h1];rfl))
   | (have n1:((pg.1:Int) != 1)=true:=(by rw [h1];rfl);have n2:((pg.1:Int) != 2)=false:=(by rw [h1];rfl))
  clear h1
  go_enter Tryz.func62,Tryz.ntmps62
  go_wp2_with (first
   | (go_at_call 138;refine (PG.out _ (HP.out.below B0.out) (HT.out.below B0.out)).mono ?_;rintro en w1 ⟨A,cp,X1,rfl,hp1,ht1,ho1,hq1⟩;have HP1:=Ac hp1;have HT1:=Ac ht1;have HO1:=Ac ho1;have HQ1:=Ac hq1;have R1:=Ac (ht1.has R0.out (fun hm=>by have:=ltx.out _ hm;omega));have r1:=R1.out.lt;have rf:=R1.out.frozen;obtain ⟨x0,x1,x2,x3⟩:=R1.out.cells4;clear hp1 ht1 ho1 hq1)
   | (go_at_call 129;refine (Et _).mono ?_;rintro e w1 ⟨rfl,rfl⟩))
  refine bodyPost_ret (v:=ndV n pg.1 pg.2.1 (.slice A pg.2.2.length cp)) (by simp [results,Tryz.results62,go_sem, *]) rfl ?_
  have ltx1:=HP1.out.lt
  have nR:some w.heap.size∉X1:=HT1.out.out (fun hm=>by have:=ltx.out _ hm;omega) (by simp)
  refine ⟨A,cp,X1,rfl, ?_, ?_, ?_,HQ1.out⟩
  ·exact ((((HP1.out.set nR _ _).set nR _ _).set nR _ _).set nR _ _).below (Ag _ _)
  ·exact ((((((Turn.below X B0.out).trans HT1.out).Di (Nat.le_refl _) _ _).Di (Nat.le_refl _) _ _).Di (Nat.le_refl _) _ _).Di (Nat.le_refl _) _ _).next (Ag _ _)
  ·have e:(w.alloc (.cells #[.int .i64 0,.int .i64 0,.int .i64 0,.slice none 0 0] 116)).heap.size=w.heap.size+1:=by simp
   have o0:=HO1.out;rw [e] at o0
   have o1:=ownsRow_setCell_below (a:=⟨w.heap.size,0,none⟩) o0 (by show w.heap.size<_;omega) (.int .i64 n)
   have o2:=ownsRow_setCell_below (a:=⟨w.heap.size,1,none⟩) o1 (by show w.heap.size<_;omega) (.int .i64 pg.1)
   have o3:=ownsRow_setCell_below (a:=⟨w.heap.size,2,none⟩) o2 (by show w.heap.size<_;omega) (.int .i64 pg.2.1)
   have o4:=ownsRow_setCell_below (a:=⟨w.heap.size,3,none⟩) o3 (by show w.heap.size<_;omega) (.slice A pg.2.2.length cp)
   exact own_base (own_below o4 (Ag _ _)) (by omega)
theorem Dp {w:World} {X:List (Option Nat)} {tb p root c k n m cp:Nat} {S S0:St} {A:Option Addr} {pg:Pg} (h:PT w X p S S0 c k) (ht:TM w X tb p root) (hc:c≤60000) (hk:k≤900000000) (h0:0<n) (hn:n<S.q) (hf:n∉S.fr) (hp:Qq pg) (hs:SS w A m pg.2.2) (hm:m≤1000000) :
 Calls Tryz.prog 46 #[.pointer (some ⟨tb,0,none⟩),ndV n pg.1 pg.2.1 (.slice A m cp)] w (Hw X w p (S.set n pg) S0 (c+1) (k+1) (.tuple #[])):=by
 have HP:=Ac h;have HT:=Ac ht
 have WR:=Ac (fun W (h:PT W X p S S0 c k)=>IB0 h hc hk h0 hn hf hp)
 have SL:=Ac (fun W (h:SS W A m pg.2.2)=>Qe pg.1 pg.2.1 A m cp pg.2.2 W h (by omega) (by have:=hp.2.2.2;omega))
 have es:Dc (pg.1:Int) (pg.2.1:Int) pg.2.2=Kw pg:=rfl
 have ee:Oc (pg.1:Int) (pg.2.1:Int) pg.2.2=0:=by
  have a1:=hp.1;have a2:=hp.2.1;have a3:=hp.2.2.1;have a4:=hp.2.2.2;unfold Oc
  rw [if_neg (by omega),if_neg (by omega)]
 rw [es,ee] at SL;obtain ⟨s,hs2⟩:∃ s,Kw pg=s:=⟨_,rfl⟩;rw [hs2] at WR SL;have B0:=Ac (Ag w (.cells #[.int .i64 n,.int .i64 pg.1,.int .i64 pg.2.1,.slice A m cp] 116));have HSS:=Ac (hs.keep B0.out);have R0:=Ac (Has.new w 116 #[.int .i64 n,.int .i64 pg.1,.int .i64 pg.2.1,.slice A m cp]);have ltx:=Ac h.lt;clear h ht hc hk h0 hn hf hp hs es ee hs2
 go_enter Tryz.func46,Tryz.ntmps46
 go_wp2_with (first
  | (go_at_call 122;refine (SL.out _ HSS.out).mono ?_;rintro en w1 ⟨rfl,hb1⟩;have HB1:=Ac hb1;clear hb1)
  | (go_at_call 129;refine (Et _).mono ?_;rintro e w1 ⟨rfl,rfl⟩))
 have HP1:=Ac ((HP.out.below B0.out).below HB1.out);have HT1:=Ac ((HT.out.below B0.out).below HB1.out);have R1:=Ac (R0.out.Aj HB1.out)
 have NR:Hid (some w.heap.size∉X):=Ac (fun hm=>by have:=ltx.out _ hm;omega)
 have t1:=HT1.out.has.cell 0;have r1:=R1.out.cell 0;have TU:=Ac ((Turn.below X B0.out).next HB1.out);clear HP HT R0 B0 HSS SL HB1
 go_region_held3 (fun w'=>w'.cell? ⟨tb,0,none⟩=some (.pointer (some ⟨p,0,none⟩))∧w'.cell? ⟨w.heap.size,0,none⟩=some (.int .i64 n)) (first | exact (⟨T2.out.has.cell 0,R2.out.cell 0⟩) | go_keep)
  (first
    | (go_at_call 72;refine (WR.out _ (HP1.out.below ((Below.refl _ _).drew))).mono ?_;rintro en w2 ⟨rfl,X2,hp2,ht2⟩;have HP2:=Ac hp2;have HT2:=Ac ht2;have T2:=Ac ((HT1.out.below ((Below.refl _ _).drew)).turn ht2);have R2:=Ac (ht2.has R1.out.drew NR.out);clear hp2 ht2)
    | (go_at_call 129;refine (Et _).mono ?_;rintro e w1 ⟨rfl,rfl⟩))
 go_wp2_with fail
 go_end0
 exact ⟨rfl,X2,HP2.out,(TU.out.next ((Below.refl _ _).drew)).trans HT2.out⟩
structure Stp where
 n:Nat
 pg:Pg
 i:Nat
abbrev Ad:=Option Addr×Nat
def slV (s:Stp) (a:Ad):Value:=.slice a.1 s.pg.2.2.length a.2
def stC (s:Stp) (a:Ad):List Value:=[.int .i64 s.n,.int .i64 s.pg.1,.int .i64 s.pg.2.1,slV s a,.int .i64 s.i]
def JI0:List Stp→List Ad→List Value
 | s :: ss,a :: rs=>stC s a++JI0 ss rs
 | _,_=>[]
theorem JO0:∀ {ss:List Stp} {rs:List Ad} (s:Stp) (a:Ad),rs.length=ss.length→JI0 (ss++[s]) (rs++[a])=JI0 ss rs++stC s a
 | [],[],s,a,_=>by simp [JI0]
 | t :: ss,b :: rs,s,a,h=>by
   rw [List.cons_append,List.cons_append,JI0,JI0,JO0 s a (by simpa using h),List.append_assoc]
 | [],_ :: _,_,_,h=>by simp at h
 | _ :: _,[],_,_,h=>by simp at h
theorem QU0:∀ {ss:List Stp} {rs:List Ad} {i:Nat} {s:Stp} {a:Ad},ss[i]? = some s→rs[i]? = some a→∀ j,j<5→(JI0 ss rs)[5*i+j]? = (stC s a)[j]?
 | t :: ss,b :: rs,0,s,a,h1,h2,j,hj=>by
   have e1:t=s:=by simpa using h1
   have e2:b=a:=by simpa using h2
   rw [e1,e2,JI0,List.getElem?_append_left (by simp [stC];omega)]
   congr 1;omega
 | t :: ss,b :: rs,i+1,s,a,h1,h2,j,hj=>by
   rw [JI0,List.getElem?_append_right (by simp [stC];omega)]
   rw [show 5*(i+1)+j-(stC t b).length=5*i+j by simp [stC];omega]
   exact QU0 (by simpa using h1) (by simpa using h2) j hj
 | [],_,_,_,_,h1,_,_,_=>by simp at h1
 | _ :: _,[],_,_,_,_,h2,_,_=>by simp at h2
def adB (a:Ad):Option Nat:=a.1.map (·.block)
theorem Gf (s:Stp) (a:Ad):(slV s a).ownBlock=adB a:=by unfold slV adB;cases a.1 <;> rfl
structure Lp (w:World) (X:List (Option Nat)) (base:Nat) (ss:List Stp) (rs:List Ad):Prop where
 len:rs.length=ss.length
 row:∀ (i:Nat) (s:Stp) (a:Ad),ss[i]? = some s→rs[i]? = some a→w.ownsRow base 9 1 (slV s a) s.pg.2.2.length (strs s.pg.2.2)
 out:∀ a∈rs,∀ g:Nat,adB a=some g→some g∉X
 one:∀ (i j:Nat) (a b:Ad) (g:Nat),rs[i]? = some a→rs[j]? = some b→adB a=some g→adB b=some g→i=j
theorem Lp.nil (w:World) (X:List (Option Nat)) (base:Nat):Lp w X base [] []:=⟨rfl,(fun i s a h=>by simp at h),(fun a h=>by cases h),(fun i j a b g h=>by simp at h)⟩
section
variable {w w':World} {X X':List (Option Nat)} {base:Nat} {ss:List Stp} {rs:List Ad}
theorem Lp.lt (h:Lp w X base ss rs):∀ a∈rs,∀ g,adB a=some g→base≤g∧g<w.heap.size:=fun a ha g hg=>by
 obtain ⟨i,hi,rfl⟩:=List.getElem_of_mem ha
 have h1:i<ss.length:=by rw [← h.len];exact hi
 have:=h.row i ss[i] rs[i] (by simp [h1]) (by simp [hi])
 exact this.lt g (by rw [Gf];exact hg)
theorem Lp.keep (h:Lp w X base ss rs) (hx:∀ a∈rs,∀ g,adB a=some g→some g∉X'∧w'.heap[g]? = w.heap[g]?):Lp w' X' base ss rs:=by
 refine ⟨h.len,fun i s a h1 h2=>?_,fun a ha g hg=>(hx a ha g hg).1,h.one⟩
 have r:=h.row i s a h1 h2
 refine ⟨r.1, ?_⟩
 rcases r.2 with q | ⟨g,cap,cur,hv,hb,hg,q⟩
 ·exact .inl q
 ·have hadb:adB a=some g:=by rw [← Gf s a,hv];rfl
  exact .inr ⟨g,cap,cur,hv,hb,(hx a (List.mem_of_getElem? h2) g hadb).2.trans hg,q⟩
theorem Lp.turn (h:Lp w X base ss rs) (ht:Turn X X' w w'):Lp w' X' base ss rs :=
 h.keep fun a ha g hg=>by
  have h1:=h.out a ha g hg;have h2:=(h.lt a ha g hg).2;exact ⟨ht.out h1 h2,ht.block g h2 h1⟩
theorem Lp.below (h:Lp w X base ss rs) (hb:Below w.heap.size w w'):Lp w' X base ss rs :=
 h.keep fun a ha g hg=>⟨h.out a ha g hg,hb.block g (h.lt a ha g hg).2⟩
theorem Lp.set (h:Lp w X base ss rs) {g:Nat} (hg:∀ a∈rs,adB a≠some g) (i:Nat) (v:Value):Lp (w.setCell ⟨g,i,none⟩ v) X base ss rs :=
 h.keep fun a ha k hk=>⟨h.out a ha k hk,Below.heap_setCell _ _ _ _ (fun e=>hg a ha (by rw [hk];exact congrArg some e))⟩
theorem Lp.grown (h:Lp w X base ss rs) {r:Option Nat} (hg:w.grownBy w' r) (hr:∀ a∈rs,∀ g,adB a=some g→some g≠r):Lp w' X base ss rs :=
 h.keep fun a ha k hk=>⟨h.out a ha k hk,hg.block k (h.lt a ha k hk).2 (hr a ha k hk)⟩
theorem Lp.snoc (h:Lp w X base ss rs) {s:Stp} {a:Ad} (hr:w.ownsRow base 9 1 (slV s a) s.pg.2.2.length (strs s.pg.2.2)) (ho:∀ g,adB a=some g→some g∉X) (hn:∀ b∈rs,∀ g,adB b=some g→adB a≠some g):Lp w X base (ss++[s]) (rs++[a]):=by
 refine ⟨by simp [h.len],fun i t b h1 h2=>?_,fun b hb g hg=>?_,fun i j b c g h1 h2 h3 h4=>?_⟩
 ·by_cases hi:i<ss.length
  ·rw [List.getElem?_append_left hi] at h1
   rw [List.getElem?_append_left (by rw [h.len];exact hi)] at h2
   exact h.row i t b h1 h2
  ·rw [List.getElem?_append_right (by omega)] at h1
   rw [List.getElem?_append_right (by rw [h.len];omega),h.len] at h2
   have e:i-ss.length=0:=by
    have:=(List.getElem?_eq_some_iff.1 h1).1;simpa using this
   rw [e] at h1 h2
   have e1:s=t:=by simpa using h1
   have e2:a=b:=by simpa using h2
   subst e1 e2;exact hr
 ·rcases List.mem_append.1 hb with hb | hb
  ·exact h.out b hb g hg
  ·rw [List.mem_singleton.1 hb] at hg;exact ho g hg
 ·have key:∀ i b,(rs++[a])[i]? = some b→(i<rs.length∧rs[i]? = some b)∨(i=rs.length∧b=a):=fun i b hb=>by
   by_cases hi:i<rs.length
   ·rw [List.getElem?_append_left hi] at hb;exact .inl ⟨hi,hb⟩
   ·rw [List.getElem?_append_right (by omega)] at hb
    have e:i-rs.length=0:=by have:=(List.getElem?_eq_some_iff.1 hb).1;simpa using this
    rw [e] at hb
    exact .inr ⟨by omega,by simpa using hb.symm⟩
  rcases key i b h1 with ⟨i1,i2⟩ | ⟨i1,rfl⟩
  ·rcases key j c h2 with ⟨j1,j2⟩ | ⟨j1,rfl⟩
   ·exact h.one i j b c g i2 j2 h3 h4
   ·exact absurd h4 (hn b (List.mem_of_getElem? i2) g h3)
  ·rcases key j c h2 with ⟨j1,j2⟩ | ⟨j1,rfl⟩
   ·exact absurd h3 (hn c (List.mem_of_getElem? j2) g h4)
   ·omega
end
structure Kt (w:World) (X:List (Option Nat)) (base:Nat) (v:Value) (ss:List Stp) (rs:List Ad):Prop where
 own:w.ownsRow base 122 5 v ss.length (JI0 ss rs)
 rows:Lp w X base ss rs
 out:∀ g,v.ownBlock=some g→some g∉X
 off:∀ a∈rs,∀ g,adB a=some g→v.ownBlock≠some g
section
variable {w w':World} {X X':List (Option Nat)} {base:Nat} {v:Value} {ss:List Stp} {rs:List Ad}
theorem Bf {e:TypeId} {k n:Nat} {xs:List Value} (h:w.ownsRow base e k v n xs) (hx:∀ g,v.ownBlock=some g→w'.heap[g]? = w.heap[g]?):w'.ownsRow base e k v n xs:=by
 refine ⟨h.1, ?_⟩
 rcases h.2 with q | ⟨g,cap,cur,hv,hb,hg,q⟩
 ·exact .inl q
 ·exact .inr ⟨g,cap,cur,hv,hb,(hx g (by rw [hv];rfl)).trans hg,q⟩
theorem Kt.turn (h:Kt w X base v ss rs) (ht:Turn X X' w w'):Kt w' X' base v ss rs :=
 ⟨Bf h.own fun g hg=>ht.block g (h.own.lt g hg).2 (h.out g hg),h.rows.turn ht,fun g hg=>ht.out (h.out g hg) (h.own.lt g hg).2,h.off⟩
theorem Kt.below (h:Kt w X base v ss rs) (hb:Below w.heap.size w w'):Kt w' X base v ss rs :=
 ⟨Bf h.own fun g hg=>hb.block g (h.own.lt g hg).2,h.rows.below hb,h.out,h.off⟩
end
theorem Kt.CM1 {w:World} {X:List (Option Nat)} {base:Nat} {v:Value} {ss:List Stp} {rs:List Ad} (h:Kt w X base v ss rs) {g:Nat} (h1:v.ownBlock≠some g) (h2:∀ a∈rs,adB a≠some g) (i:Nat) (u:Value):Kt (w.setCell ⟨g,i,none⟩ u) X base v ss rs :=
 ⟨Bf h.own fun k hk=>Below.heap_setCell _ _ _ _ (fun e=>h1 (by rw [hk];exact congrArg some e)),h.rows.set h2 i u,h.out,h.off⟩
theorem Kt.snoc {w w':World} {X:List (Option Nat)} {base g cap:Nat} {v:Value} {ss:List Stp} {rs:List Ad} {s:Stp} {a:Ad} (h:Kt w X base v ss rs) (ho:w'.ownsRow base 122 5 (.slice (some ⟨g,0,none⟩) (ss.length+1) cap) (ss.length+1) (JI0 ss rs++stC s a)) (hg:w.grownBy w' v.ownBlock) (hat:v.ownBlock=some g∨g=w.heap.size) (hX:∀ i,some i∈X→i<w.heap.size)
 (hr:w.ownsRow base 9 1 (slV s a) s.pg.2.2.length (strs s.pg.2.2)) (hf:∀ k,adB a=some k→some k∉X∧(∀ b∈rs,adB b≠some k)∧v.ownBlock≠some k):Kt w' X base (.slice (some ⟨g,0,none⟩) (ss.length+1) cap) (ss++[s]) (rs++[a]):=by
 have hgX:some g∉X:=fun hm=>by
  rcases hat with e | e
  ·exact h.out g e hm
  ·have:=hX g hm;omega
 have hrw:w'.ownsRow base 9 1 (slV s a) s.pg.2.2.length (strs s.pg.2.2):=Bf hr fun k hk=>hg.block k (hr.lt k hk).2 (fun e=>by rw [Gf] at hk;exact (hf k hk).2.2 e.symm)
 have hrows:Lp w' X base ss rs:=h.rows.grown hg fun b hb k hk e=>h.off b hb k hk e.symm
 refine ⟨by rw [JO0 _ _ h.rows.len,List.length_append];exact ho,hrows.snoc hrw (fun k hk=>(hf k hk).1) (fun b hb k hk e=>(hf k e).2.1 b hb hk),fun k hk=>?_,fun b hb k hk e=>?_⟩
 ·have:some g=some k:=hk
  cases this;exact hgX
 ·have:some g=some k:=e
  cases this
  rcases List.mem_append.1 hb with hb | hb
  ·rcases hat with e2 | e2
   ·exact h.off b hb g hk e2
   ·have:=(h.rows.lt b hb g hk).2;omega
  ·rw [List.mem_singleton.1 hb] at hk
   rcases hat with e2 | e2
   ·exact (hf g hk).2.2 e2
   ·have:=(hr.lt g (by rw [Gf];exact hk)).2;omega
section
variable {w w' w2:World} {X X':List (Option Nat)} {p tb root c k:Nat} {S S0:St} {r:Option Nat}
theorem MY0 (hg:w.grownBy w' r):Turn [r] [r] w w':=⟨hg.os,hg.tape,hg.output,hg.size,fun k hk hn=>hg.block k hk (fun e=>hn (by rw [e];exact List.mem_singleton.2 rfl)),fun _ h=>.inl h⟩
theorem PT.grown (h:PT w X p S S0 c k) (hg:w.grownBy w' r) (hr:∀ g,r=some g→some g∉X):PT w' X p S S0 c k:=h.far (MY0 hg) fun i hi=>hr i (List.mem_singleton.1 hi).symm
theorem TM.grown (h:TM w X tb p root) (hg:w.grownBy w' r) (hr:some tb≠r):TM w' X tb p root:=⟨h.has.grown hg hr,h.out⟩
theorem Turn.HC0 (h:Turn X X' w w') (hg:w'.grownBy w2 r) (hr:∀ g,r=some g→w.heap.size≤g):Turn X X' w w2 :=
 ⟨hg.os.trans h.os,hg.tape.trans h.tape,hg.output.trans h.output,Nat.le_trans h.size hg.size,fun k hk hn=>(hg.block k (Nat.lt_of_lt_of_le hk h.size) (fun e=>by have:=hr k e.symm;omega)).trans (h.block k hk hn),h.new⟩
end
theorem PT.Me {w:World} {X:List (Option Nat)} {p c k g:Nat} {S S0:St} {a b d e:Value} (h:PT w X p S S0 c k) (hg:some g∉X):PT ((((w.setCell ⟨g,0,none⟩ a).setCell ⟨g,1,none⟩ b).setCell ⟨g,2,none⟩ d).setCell ⟨g,3,none⟩ e) X p S S0 c k:=(((h.set hg 0 a).set hg 1 b).set hg 2 d).set hg 3 e
theorem Turn.Ho {X X':List (Option Nat)} {w w':World} {g:Nat} {a b d e:Value} (h:Turn X X' w w') (hg:w.heap.size≤g):Turn X X' w ((((w'.setCell ⟨g,0,none⟩ a).setCell ⟨g,1,none⟩ b).setCell ⟨g,2,none⟩ d).setCell ⟨g,3,none⟩ e):=(((h.Di hg 0 a).Di hg 1 b).Di hg 2 d).Di hg 3 e
theorem TM.Me {w:World} {X:List (Option Nat)} {tb p root g:Nat} {a b d e:Value} (h:TM w X tb p root) (hg:tb≠g):TM ((((w.setCell ⟨g,0,none⟩ a).setCell ⟨g,1,none⟩ b).setCell ⟨g,2,none⟩ d).setCell ⟨g,3,none⟩ e) X tb p root:=(((h.set hg 0 a).set hg 1 b).set hg 2 d).set hg 3 e
theorem Kt.Me {w:World} {X:List (Option Nat)} {base g:Nat} {v:Value} {ss:List Stp} {rs:List Ad} {a b d e:Value} (h:Kt w X base v ss rs) (h1:v.ownBlock≠some g) (h2:∀ a∈rs,adB a≠some g):Kt ((((w.setCell ⟨g,0,none⟩ a).setCell ⟨g,1,none⟩ b).setCell ⟨g,2,none⟩ d).setCell ⟨g,3,none⟩ e) X base v ss rs:=(((h.CM1 h1 h2 0 a).CM1 h1 h2 1 b).CM1 h1 h2 2 d).CM1 h1 h2 3 e
theorem Na {w:World} {base g k n:Nat} {t:TypeId} {v:Value} {xs:List Value} {a b d e:Value} (h:w.ownsRow base t k v n xs) (hg:v.ownBlock≠some g):((((w.setCell ⟨g,0,none⟩ a).setCell ⟨g,1,none⟩ b).setCell ⟨g,2,none⟩ d).setCell ⟨g,3,none⟩ e).ownsRow base t k v n xs:=by
 have f:∀ (w:World) (i:Nat) (u:Value),w.ownsRow base t k v n xs→(w.setCell ⟨g,i,none⟩ u).ownsRow base t k v n xs:=fun w i u h=>Bf h fun q hq=>Below.heap_setCell _ _ _ _ (fun e=>hg (by rw [hq];exact congrArg some e))
 exact f _ 3 e (f _ 2 d (f _ 1 b (f _ 0 a h)))
theorem QT0:(Tryz.prog.info? 122).map (fun i=>(i.zero,i.size,i.bytes))=some (some (.agg #[.int .i64 0,.int .i64 0,.int .i64 0,.slice none 0 0,.int .i64 0]),5,56):=by kernel_rfl
def upS (u:UpR):Stp:=⟨u.y.n,Yr u.y,u.U.length⟩
def lfP (B:List Nd) (x:Nd):Pg:=(1,hdN B 0,x.its.map Af)
def lfS (key:Ky) (B:List Nd) (x:Nd):Stp:=⟨x.n,lfP B x,cnt key false x.its⟩
def Gw (ups:List UpR):List Stp:=(ups.map upS).reverse
theorem FE0 (u:UpR) (ups:List UpR):Gw (u :: ups)=Gw ups++[upS u]:=by simp [Gw]
theorem Ce (ups:List UpR):(Gw ups).length=ups.length:=by simp [Gw]
section
variable {G:Nat→Pg} {root:Nat} {A B:List Nd} {x:Nd} {Ds:List (List Nd)}
theorem Dwn.page (h:Dwn G 0 root (A++x :: B) Ds) (h0:x.n≠0):G x.n=pgN Ds.isEmpty B x:=by
 cases Ds with
 | nil =>
   obtain ⟨_,p2⟩:=Je.1 (Hy.pages h);exact p2.1 h0
 | cons D r=>exact h.1.pages x (by simp) h0
theorem Dwn.well (h:Dwn G 0 root (A++x :: B) Ds):LX0 x.its:=fun i hi=>by
 have:=h.sz (x:=x) (by simp) hi
 refine ⟨this.2.1, ?_⟩
 have:=this.1;unfold szI at this;omega
theorem Dwn.kids (h:Dwn G 0 root (A++x :: B) Ds) (hD:Ds≠[]):∀ i∈x.its,i.r.length=4:=fun i hi=>(h.sz (x:=x) (by simp) hi).2.2 hD
end
def lenOf:Value→Nat
 | .slice _ n _=>n
 | _=>0
theorem XB0 {w:World} {base k n:Nat} {e:TypeId} {v:Value} {xs:List Value} (h:w.ownsRow base e k v n xs):lenOf v=n:=by
 rcases h.2 with ⟨h1,h2⟩ | ⟨g,cap,cur,h1,_⟩
 ·rw [h1,h2];rfl
 ·rw [h1];rfl
def FQ1 (w:World) (X:List (Option Nat)) (p tb root c k D base xb:Nat) (S S0:St) (T:Nd×List (List Nd)) (key:Ky) (v5:Value) (wr:World):Prop :=
 ∃ A x B ups Ds rs X' sl,Dwn S.G 0 root (A++x :: B) Ds∧Abv S.G 0 root A x B ups∧At key A x B∧ups.length+Ds.length=D∧BC1 A x B Ds ups=T ∧
   PT wr X' p S S0 c (k+ups.length+1)∧Turn X X' w wr∧TM wr X' tb p root∧Kt wr X' base v5 (Gw ups) rs ∧
   Has wr xb 116 #[.int .i64 x.n,.int .i64 (pgN Ds.isEmpty B x).1,.int .i64 (pgN Ds.isEmpty B x).2.1,slV ⟨x.n,pgN Ds.isEmpty B x,0⟩ sl] ∧
   wr.ownsRow base 9 1 (slV ⟨x.n,pgN Ds.isEmpty B x,0⟩ sl) (pgN Ds.isEmpty B x).2.2.length (strs (pgN Ds.isEmpty B x).2.2)∧(∀ g,adB sl=some g→some g∉X'∧(∀ b∈rs,adB b≠some g)∧v5.ownBlock≠some g) ∧
   some xb∉X'∧v5.ownBlock≠some xb∧(∀ b∈rs,adB b≠some xb)∧adB sl≠some xb∧base≤xb
def XD0 (w:World) (X:List (Option Nat)) (p c k D:Nat) (S S0:St) (root:Nat) (T:Nd×List (List Nd)) (key:Ky) (en:Ending) (w':World):Prop :=
 ∃ A x B ups rs X' v,Dwn S.G 0 root (A++x :: B) []∧Abv S.G 0 root A x B ups∧At key A x B∧ups.length=D∧BC1 A x B [] ups=T∧en = .returned v ∧
   PT w' X' p S S0 c (k+D+1)∧Turn X X' w w'∧Kt w' X' w.heap.size v (Gw ups++[lfS key B x]) rs
theorem ZD0 (n m c:Nat) (A:Option Addr) (its:List It) (w:World) {U V:List It} {it:It} (e:its=U++it :: V) (h:SS w A m ((its.drop 1).map Af)) (hw:LX0 its) (hr:it.r.length=4) (hm:m≤1000000) :
 Calls Tryz.prog 132 #[ndV n 2 (Dz (its.headD ⟨[],[]⟩).r) (.slice A m c),.int .i64 (U.length:Nat)] w fun e w'=>e = .returned (.int .i64 (Dz it.r))∧Below w.heap.size w w':=by
 cases U with
 | nil =>
   rw [e];exact OT0 n 2 (Dz it.r) _ w
 | cons u U =>
   have e1:its.drop 1=U++it :: V:=by rw [e];rfl
   have hl:U.length<(its.drop 1).length:=by rw [e1];simp
   have e2:(its.drop 1)[U.length]=it:=by simp [e1]
   have:=TN0 n 2 (Dz (its.headD ⟨[],[]⟩).r) m c A (its.drop 1) w h U.length hl (fun i hi=>hw i (List.mem_of_mem_drop hi)) (by rw [e2];exact hr) hm
   rw [e2] at this;exact this
theorem QI0:∀ cs:List ByteArray,4*cs.length≤Be cs
 | []=>Nat.zero_le _
 | c :: cs=>by
   have:=QI0 cs;unfold Be at this ⊢;simp only [List.map_cons,List.sum_cons,List.length_cons];omega
theorem Oy {p:Pg} (h:Qq p):p.2.2.length≤253:=by have:=h.2.2.2;have:=QI0 p.2.2;omega
theorem Jv (n l:Nat) (v:Value) (w:World):Calls Tryz.prog 130 #[.agg #[.int .i64 n,.int .i64 2,.int .i64 l,v]] w fun e w'=>e = .returned (.bool false)∧Below w.heap.size w w':=CO0 n 2 l v w
theorem Ko (n l:Nat) (v:Value) (w:World):Calls Tryz.prog 130 #[.agg #[.int .i64 n,.int .i64 1,.int .i64 l,v]] w fun e w'=>e = .returned (.bool true)∧Below w.heap.size w w':=CO0 n 1 l v w
theorem RR0 (n l m c:Nat) (A:Option Addr) (its:List It) (key:Ky) (w:World) (h:SS w A m (its.map Af)) (hw:LX0 its) (hs:Srt its) (hm:m≤1000000) :
 Calls Tryz.prog 131 #[.agg #[.int .i64 n,.int .i64 2,.int .i64 l,.slice A m c],.string (bsK key),.bool true] w fun e w'=>e = .returned (.int .i64 (cnt key true its))∧Below w.heap.size w w':=JT0 n 2 l m c A its key true w h hw hs hm
theorem WS0 (n l m c:Nat) (A:Option Addr) (its:List It) (key:Ky) (w:World) (h:SS w A m (its.map Af)) (hw:LX0 its) (hs:Srt its) (hm:m≤1000000) :
 Calls Tryz.prog 131 #[.agg #[.int .i64 n,.int .i64 1,.int .i64 l,.slice A m c],.string (bsK key),.bool false] w fun e w'=>e = .returned (.int .i64 (cnt key false its))∧Below w.heap.size w w':=JT0 n 1 l m c A its key false w h hw hs hm
theorem Ie (n m c:Nat) (A:Option Addr) (its:List It) (w:World) {U V:List It} {it:It} (e:its=U++it :: V) (h:SS w A m ((its.drop 1).map Af)) (hw:LX0 its) (hr:it.r.length=4) (hm:m≤1000000) :
 Calls Tryz.prog 132 #[.agg #[.int .i64 n,.int .i64 2,.int .i64 (Dz (its.headD ⟨[],[]⟩).r),.slice A m c],.int .i64 (U.length:Nat)] w fun e w'=>e = .returned (.int .i64 (Dz it.r))∧Below w.heap.size w w':=ZD0 n m c A its w e h hw hr hm
theorem AA0 {w:World} {X:List (Option Nat)} {tb p root c k:Nat} {S S0:St} {x0:Nd} {Ds0:List (List Nd)} (h:PT w X p S S0 c k) (ht:TM w X tb p root) (hc:c≤60000) (hk:k≤800000000) (tr:Tre S.G root x0 Ds0) (hpg:∀ n,n<S.q→Qq (S.G n)) (hown:∀ n∈Ei [x0] Ds0,0<n∧n<S.q) (hq:S.q≤65536) (hD:Ds0.length≤60) (key:Ky) :
 Calls Tryz.prog 49 #[.pointer (some ⟨tb,0,none⟩),.string (bsK key)] w (XD0 w X p c k Ds0.length S S0 root (x0,Ds0) key):=by
 have HP:=Ac h;have HT:=Ac ht;have HPG:=Ac hpg;have ltx:=Ac h.lt;have t1:=ht.has.cells2.2;have tz:=ht.has.lt;obtain ⟨tr1,tr2,tr3⟩:=tr
 have hr:=hown root (by rw [← tr2];exact Bg List.mem_cons_self _)
 have pg0:=Dwn.page (A:=[]) (B:=[]) (x:=x0) tr1 (by omega)
 rw [tr2] at pg0
 have k12:(S.G root).1=1∨(S.G root).1=2:=by rw [pg0];cases Ds0 <;> simp [pgN,Yr]
 have LD:=Ac (Gg h ht hc (by omega) hr.2 (hpg root hr.2) k12)
 rw [pg0] at LD;obtain ⟨K,hK⟩:∃ K,bsK key=K:=⟨_,rfl⟩;have TR1:=Ac tr1;have TR2:=Ac tr2;have TR3:=Ac tr3;have HOWN:=Ac hown;have HDL:=Ac hD;rw [hK];have HKK:=Ac hK;have HCK:=Ac (And.intro hc hk);have HTZ:=Ac tz;clear h ht hpg tr1 tr2 tr3 pg0 k12 hown hD hK hc hk
 go_enter Tryz.func49,Tryz.ntmps49
 go_wp2_with (first
  | (go_at_call 62;refine LD.out.mono ?_;rintro en w1 ⟨sl,cp,X1,rfl,hp1,ht1,ho1,hq1⟩;have HP1:=Ac hp1;have HT1:=Ac ht1;have HO1:=Ac ho1;have HQ1:=Ac hq1;clear hp1 ht1 ho1 hq1))
 have B2:=Ag w1 (.cells #[.int .i64 root,.int .i64 (pgN Ds0.isEmpty [] x0).1,.int .i64 (pgN Ds0.isEmpty [] x0).2.1,.slice sl (pgN Ds0.isEmpty [] x0).2.2.length cp] 116);have X2:=Has.new w1 116 #[.int .i64 root,.int .i64 (pgN Ds0.isEmpty [] x0).1,.int .i64 (pgN Ds0.isEmpty [] x0).2.1,.slice sl (pgN Ds0.isEmpty [] x0).2.2.length cp]
 generalize (w1.alloc (.cells #[.int .i64 root,.int .i64 (pgN Ds0.isEmpty [] x0).1,.int .i64 (pgN Ds0.isEmpty [] x0).2.1,.slice sl (pgN Ds0.isEmpty [] x0).2.2.length cp] 116))=W at *
 obtain ⟨xb,hxb⟩:∃ xb,w1.heap.size=xb:=⟨_,rfl⟩
 have zx:w.heap.size≤xb:=by have:=HT1.out.size;omega
 have ZX:=Ac zx
 have INIT:Hid (FQ1 w X p tb root c k Ds0.length w.heap.size xb S S0 (x0,Ds0) key (.slice none 0 0) W):=Ac (by
  have ltx1:=HP1.out.lt
  refine ⟨[],x0,[],[],Ds0,[],X1,(sl,cp),TR1.out,⟨rfl,rfl,TR2.out,TR3.out⟩,⟨by rw [TR3.out];exact NJ0 _,fun b hb=>by cases hb⟩,by simp,rfl,HP1.out.below B2,HT1.out.next B2,(HT.out.turn HT1.out).below B2,⟨⟨rfl,.inl ⟨rfl,rfl⟩⟩,Lp.nil _ _ _,(fun g hg=>by cases hg),(fun a ha=>by cases ha)⟩, ?_,own_below HO1.out B2, ?_, ?_,(by intro h;cases h),(fun b hb=>by cases hb), ?_,zx⟩
  ·rw [TR2.out,← hxb];exact X2
  ·exact fun g hg=>⟨HQ1.out g (by rw [← hg];exact (Gf ⟨0,pgN Ds0.isEmpty [] x0,0⟩ (sl,cp))),(fun b hb=>by cases hb),(by intro h;cases h)⟩
  ·intro hm;have:=ltx1 _ hm;omega
  ·intro e
   have:=(HO1.out.lt xb (by rw [← e];exact (Gf ⟨0,pgN Ds0.isEmpty [] x0,0⟩ (sl,cp)))).2
   omega)
 rw [hxb];clear B2 X2 HP HT HP1 HT1 HO1 HQ1 TR1 TR2 TR3 hxb t1 tz LD
 go_loopw [5] (fun v5 wr=>FQ1 w X p tb root c k Ds0.length w.heap.size xb S S0 (x0,Ds0) key v5 wr) (fun v5 _=>Ds0.length-lenOf v5)
 case atStart=>exact INIT.out
 case round =>
  clear INIT;obtain ⟨A,x,B,ups,Ds,rs,X',sl2,g1,g2,g3,g4,g5,g6,g7,g8,g9,g10,g11,g12,g13,g14,g15,g16,g17⟩:=hrel
  have HMW:∀ n∈Ei (A++x :: B) Ds,0<n∧n<S.q:=fun n hn=>HOWN.out n (by
   have:=DP0 (x:=x) (Ds:=Ds) g2;rw [g5] at this
   exact this.mem_iff.2 (List.mem_append_left _ hn))
  have hxq:=HMW x.n (Bg (by simp) Ds)
  have hxp:x.n≠0:=by omega
  have pgx:=g1.page hxp;have wl:=g1.well
  have ord:=(Dwn.ord g1).2 x (by simp)
  have hlen:=Oy (HPG.out x.n hxq.2);rw [pgx] at hlen
  cases Ds with
  | nil =>
    have hlen2:x.its.length≤253:=by
     have h2:(x.its.map Af).length≤253:=hlen;rw [List.length_map] at h2;exact h2
    have FD:=Ac (fun W (h:SS W sl2.1 x.its.length (x.its.map Af))=>WS0 x.n (hdN B 0) x.its.length sl2.2 sl2.1 x.its key W h wl ord.1 (by omega))
    have LF:=Ac (fun W=>Ko x.n (hdN B 0) (.slice sl2.1 x.its.length sl2.2) W)
    rw [HKK.out] at FD
    have hx:=Ac (show Has wr xb 116 #[.int .i64 x.n,.int .i64 1,.int .i64 (hdN B 0:Nat),.slice sl2.1 x.its.length sl2.2] from by
     have h1:=g10
     have e:(slV ⟨x.n,pgN ([]:List (List Nd)).isEmpty B x,0⟩ sl2) = .slice sl2.1 x.its.length sl2.2:=by
      show Value.slice sl2.1 (x.its.map Af).length sl2.2=_
      rw [List.length_map]
     rw [e] at h1
     exact h1)
    obtain ⟨c0,c1,c2,c3⟩:=hx.out.cells4;have cz:=hx.out.lt;have G1:=Ac g1;have G2:=Ac g2;have G3:=Ac g3;have G4:=Ac g4;have G5:=Ac g5;have G6:=Ac g6;have G7:=Ac g7;have G9:=Ac g9;have G11:=Ac g11;have G12:=Ac g12;have G13:=Ac (And.intro g13 (And.intro g14 (And.intro g15 g16)))
    have PL:(Gw ups).length≤60:=by rw [Ce];have:=HDL.out;omega
    obtain ⟨cn,hcn⟩:∃ cn,cnt key false x.its=cn:=⟨_,rfl⟩;have HCN:=Ac hcn;rw [hcn] at FD;obtain ⟨L,hL⟩:∃ L,hdN B 0=L:=⟨_,rfl⟩;have HL:=Ac hL;rw [hL] at FD LF hx c2;obtain ⟨m,hm⟩:∃ m,x.its.length=m:=⟨_,rfl⟩;have HM:=Ac hm;rw [hm] at FD LF hx c3;clear g1 g2 g3 g4 g5 g6 g7 g8 g9 g10 g11 g12 g13 g14 g15 g16 HMW hxq hxp pgx wl ord hlen hlen2 hcn hL hm;obtain ⟨i0,hi0,hz0,hz1,hz2⟩:=info_parts QT0
    have TOS:=Ac (fun W (h:W.ownsRow w.heap.size 9 1 (slV ⟨x.n,pgN ([]:List (List Nd)).isEmpty B x,0⟩ sl2) (pgN ([]:List (List Nd)).isEmpty B x).2.2.length (strs (pgN ([]:List (List Nd)).isEmpty B x).2.2))=>(show SS W sl2.1 m (x.its.map Af) from by
     have:=SS.Dv h;have e:(pgN ([]:List (List Nd)).isEmpty B x).2.2=x.its.map Af:=rfl
     rw [e,List.length_map,HM.out] at this;exact this))
    have HST:=Ac (show [Value.int .i64 x.n,.int .i64 1,.int .i64 L,.slice sl2.1 m sl2.2,.int .i64 cn]=stC (lfS key B x) sl2 from by
     rw [← HL.out,← HM.out,← HCN.out];unfold stC slV lfS lfP
     simp)
    go_wp2_with (first
     | (go_at_call 130;refine (LF.out _).mono ?_;rintro en w1 ⟨rfl,hb1⟩;have x1:=Ac (hx.out.Aj hb1);have HB1:=Ac hb1;clear c0 c1 c2 c3 cz hb1;obtain ⟨c0,c1,c2,c3⟩:=x1.out.cells4;have cz:=x1.out.lt))
    go_region_law
     (first
       | (go_simp;go_at_call 131;refine (FD.out _ (TOS.out _ (own_below (own_below G11.out HB1.out) ((Below.refl _ _).drew)))).mono ?_;rintro en w2 ⟨rfl,hb2⟩;have HB2:=Ac ((Am HB1.out ((Below.refl _ _).drew) HB1.out.size).trans (hb2.mono HB1.out.size));have zw2:=HB2.out.size;have x2:=Ac (hx.out.Aj HB2.out);clear c0 c1 c2 c3 cz hb2;obtain ⟨c0,c1,c2,c3⟩:=x2.out.cells4;have cz:=x2.out.lt)
       | (refine step_append_lies _ (by rfl) _ _ _ (by rfl) w.heap.size 122 i0 _ 5 56 Tryz.underlying118 hi0 hz0 hz1 hz2 rfl (by omega) u5 (Gw ups).length (JI0 (Gw ups) rs) (by rfl) ((own_below G9.out.own HB2.out).alloc _) _ 1 1 [.int .i64 x.n,.int .i64 1,.int .i64 L,.slice sl2.1 m sl2.2,.int .i64 cn] (by rfl) (by rfl) (World.news_of_block (heap_alloc_new _ _)) (by simp [Value.oneCell']) (by omega) (by simp only [maxLen];omega) (by omega) (by simp;omega) _ rfl ?_;intro gg cap w3 hown3 hgrow3 hat3 hlt3;have HO3:=Ac hown3;have HG3:=Ac hgrow3;have HA3:=Ac hat3;clear hown3 hgrow3 hat3))
    all_goals
     go_wp2_with fail
     have zX:=G6.out.lt;have z2:=HB2.out.size;have PA:=(G9.out.below HB2.out).below (Ag w2 (.cells #[.int .i64 x.n,.int .i64 1,.int .i64 L,.slice sl2.1 m sl2.2,.int .i64 cn] 122))
     have P3:=PA.snoc (s:=lfS key B x) (a:=sl2) (by have:=HO3.out;rw [HST.out] at this;exact this) HG3.out HA3.out (fun i hi=>by have:=zX i hi;simp only [World.size_alloc];omega) (own_below (own_below G11.out HB2.out) (Ag _ _)) G12.out
     have hD:ups.length=Ds0.length:=by have:=G4.out;simpa using this
     have PT3:=((G6.out.below HB2.out).below (Ag w2 (.cells #[.int .i64 x.n,.int .i64 1,.int .i64 L,.slice sl2.1 m sl2.2,.int .i64 cn] 122))).grown HG3.out (fun g hg=>G9.out.out g hg)
     have TU3:=((G7.out.next HB2.out).next (Ag w2 (.cells #[.int .i64 x.n,.int .i64 1,.int .i64 L,.slice sl2.1 m sl2.2,.int .i64 cn] 122))).HC0 HG3.out (fun g hg=>(G9.out.own.lt g hg).1)
     rw [hD] at PT3
     have FIN:=Ac (show XD0 w X p c k Ds0.length S S0 root (x0,Ds0) key (.returned (.slice (some ⟨gg,0,none⟩) ((Gw ups).length+1) cap)) w3 from ⟨A,x,B,ups,rs++[sl2],X',_,G1.out,G2.out,G3.out,hD,G5.out,rfl,PT3,TU3,P3⟩)
     clear PA P3 PT3 TU3
     go_ret
     exact FIN.out
  | cons D1 r =>
    obtain ⟨U,it,V,e1,e2,A',y,B',e3,e4,e5,e6,e7⟩:=ZV0 g1 g2 g3
    have hlen2:(x.its.drop 1).length≤253:=by
     have h2:((x.its.drop 1).map Af).length≤253:=hlen;rw [List.length_map] at h2;exact h2
    have hit4:=g1.kids (by simp) it (by rw [e1];simp)
    have hyq:=HMW y.n (List.mem_append_right _ (by rw [e3];exact Bg (by simp) r))
    have hyn:Dz it.r=y.n:=by rw [e4];exact Du (by omega)
    have pgy:=e5.page (by omega)
    have hss:SS wr sl2.1 (x.its.drop 1).length ((x.its.drop 1).map Af):=by
     have:=SS.Dv g11;have e:(pgN (D1 :: r).isEmpty B x).2.2=(x.its.drop 1).map Af:=rfl;rw [e,List.length_map] at this;exact this
    have FD:=Ac (fun W (h:SS W sl2.1 (x.its.drop 1).length ((x.its.drop 1).map Af))=>RR0 x.n (Dz (x.its.headD ⟨[],[]⟩).r) (x.its.drop 1).length sl2.2 sl2.1 (x.its.drop 1) key W h (fun i hi=>wl i (List.mem_of_mem_drop hi)) (ord.1.sublist (List.drop_sublist _ _)) (by omega))
    have KD:=Ac (fun W (h:SS W sl2.1 (x.its.drop 1).length ((x.its.drop 1).map Af))=>Ie x.n (x.its.drop 1).length sl2.2 sl2.1 x.its W e1 h wl hit4 (by omega))
    have LF:=Ac (fun W=>Jv x.n (Dz (x.its.headD ⟨[],[]⟩).r) (.slice sl2.1 (x.its.drop 1).length sl2.2) W)
    have LY:=Ac (fun W (h:PT W X' p S S0 c (k+ups.length+1)) (ht:TM W X' tb p root)=>Gg (n:=y.n) h ht HCK.out.1 (by have:=HCK.out.2;have:=HDL.out;omega) hyq.2 (HPG.out _ hyq.2) (by rw [pgy];cases r <;> simp [pgN,Yr]))
    rw [pgy] at LY;rw [← e2,HKK.out] at FD;rw [hyn] at KD
    have hx:=Ac (show Has wr xb 116 #[.int .i64 x.n,.int .i64 2,.int .i64 (Dz (x.its.headD ⟨[],[]⟩).r),.slice sl2.1 (x.its.drop 1).length sl2.2] from by
     have h1:=g10
     have e:(slV ⟨x.n,pgN (D1 :: r).isEmpty B x,0⟩ sl2) = .slice sl2.1 (x.its.drop 1).length sl2.2:=by
      show Value.slice sl2.1 ((x.its.drop 1).map Af).length sl2.2=_
      rw [List.length_map]
     rw [e] at h1
     exact h1)
    obtain ⟨c0,c1,c2,c3⟩:=hx.out.cells4;have cz:=hx.out.lt;have E1:=Ac e1;have E2:=Ac e2;have E3:=Ac e3;have E4:=Ac e4;have E5:=Ac e5;have E6:=Ac e6;have E7:=Ac e7;have G1:=Ac g1;have G4:=Ac g4;have G5:=Ac g5;have G6:=Ac g6;have G7:=Ac g7;have G8:=Ac g8;have G9:=Ac g9;have G11:=Ac g11;have G12:=Ac g12;have G13:=Ac (And.intro g13 (And.intro g14 (And.intro g15 g16)))
    have PL:(Gw ups).length≤60:=by rw [Ce];have:=HDL.out;omega
    clear e1 e2 e3 e4 e5 e6 e7 g1 g2 g3 g4 g5 g6 g7 g8 g9 g10 g11 g12 g13 g14 g15 g16 HMW hxq hxp pgx wl ord hlen hlen2 hit4 hyq hyn pgy;have HLL:Hid (Dz (x.its.headD ⟨[],[]⟩).r=Dz (x.its.headD ⟨[],[]⟩).r):=Ac rfl
    generalize hL:Dz (x.its.headD ⟨[],[]⟩).r=L at FD KD LF hx c0 c1 c2 c3
    generalize hm:(x.its.drop 1).length=m at FD KD LF hx c0 c1 c2 c3 hss
    have HL:=Ac hL;have HM:=Ac hm;clear hL hm HLL;obtain ⟨i0,hi0,hz0,hz1,hz2⟩:=info_parts QT0
    have TOS:=Ac (fun W (h:W.ownsRow w.heap.size 9 1 (slV ⟨x.n,pgN (D1 :: r).isEmpty B x,0⟩ sl2) (pgN (D1 :: r).isEmpty B x).2.2.length (strs (pgN (D1 :: r).isEmpty B x).2.2))=>(show SS W sl2.1 m ((x.its.drop 1).map Af) from by
     have:=SS.Dv h;have e:(pgN (D1 :: r).isEmpty B x).2.2=(x.its.drop 1).map Af:=rfl
     rw [e,List.length_map,HM.out] at this;exact this))
    have HST:=Ac (show [Value.int .i64 x.n,.int .i64 2,.int .i64 L,.slice sl2.1 m sl2.2,.int .i64 (U.length:Nat)]=stC (upS ⟨A,x,U,V,B⟩) sl2 from by
     rw [← HL.out,← HM.out];unfold stC upS slV Yr
     simp)
    have BX:=Ac (show some xb≠u5.ownBlock from fun e=>G13.out.2.1 e.symm)
    have zb:=G7.out.size
    go_wp2_with (first
     | (go_at_call 130;refine (LF.out _).mono ?_;rintro en w1 ⟨rfl,hb1⟩;have x1:=Ac (hx.out.Aj hb1);have HB1:=Ac hb1;clear c0 c1 c2 c3 cz hb1;obtain ⟨c0,c1,c2,c3⟩:=x1.out.cells4;have cz:=x1.out.lt)
     | (go_at_call 131;refine (FD.out _ (TOS.out _ (own_below G11.out HB1.out))).mono ?_;rintro en w2 ⟨rfl,hb2⟩;have x2:=Ac (x1.out.Aj hb2);have HB2:=Ac (Am HB1.out hb2 HB1.out.size);clear c0 c1 c2 c3 cz hb2;have zw2:=HB2.out.size;obtain ⟨c0,c1,c2,c3⟩:=x2.out.cells4;have cz:=x2.out.lt)
     | (at_builtin;refine wpList_append_lies _ rfl (.tmp 20) (.tmp 24) 118 rfl w.heap.size 122 i0 _ 5 56 Tryz.underlying118 hi0 hz0 hz1 hz2 rfl (by omega) u5 (Gw ups).length (JI0 (Gw ups) rs) rfl ((own_below G9.out.own HB2.out).alloc _) _ 1 1 [.int .i64 x.n,.int .i64 2,.int .i64 L,.slice sl2.1 m sl2.2,.int .i64 (U.length:Nat)] rfl rfl (World.news_of_block (heap_alloc_new _ _)) (by simp [Value.oneCell']) (by omega) (by simp only [maxLen];omega) (by omega) (by simp;omega) _ rfl ?_;intro gg cap w3 hown3 hgrow3 hat3 hlt3;have HO3:=Ac hown3;have HG3:=Ac hgrow3;have HA3:=Ac hat3;have x3:=Ac ((x2.out.alloc (.cells #[.int .i64 x.n,.int .i64 2,.int .i64 L,.slice sl2.1 m sl2.2,.int .i64 (U.length:Nat)] 122)).grown hgrow3 BX.out);have ROW3:=Ac (Bf (w':=w3) ((own_below G11.out HB2.out).alloc _) (fun g hg=>hgrow3.block g (by have:=(((own_below G11.out HB2.out).alloc (.cells #[.int .i64 x.n,.int .i64 2,.int .i64 L,.slice sl2.1 m sl2.2,.int .i64 (U.length:Nat)] 122)).lt g hg).2;exact this) (fun e=>by rw [Gf] at hg;exact (G12.out g hg).2.2 e.symm)));clear hown3 hgrow3 hat3 c0 c1 c2 c3 cz;obtain ⟨c0,c1,c2,c3⟩:=x3.out.cells4;have cz:=x3.out.lt)
     | (go_at_call 132;refine (KD.out _ (TOS.out _ ROW3.out)).mono ?_;rintro en w4 ⟨rfl,hb4⟩;have HB4:=Ac hb4;have x4:=Ac (x3.out.Aj hb4);have PT4:=Ac ((((G6.out.below HB2.out).below (Ag _ _)).grown HG3.out (fun g hg=>G9.out.out g hg)).below hb4);have TM4:=Ac ((((G8.out.below HB2.out).below (Ag _ _)).grown HG3.out (fun e=>by have:=(G9.out.own.lt tb e.symm).1;have:=HTZ.out;omega)).below hb4);clear hb4)
     | (go_at_call 62;refine (LY.out _ PT4.out TM4.out).mono ?_;rintro en w5 ⟨sl5,cp5,X5,rfl,hp5,ht5,ho5,hq5⟩;have PT5:=Ac hp5;have TU5:=Ac ht5;have RO5:=Ac ho5;have RQ5:=Ac hq5;have x5:=Ac (ht5.has x4.out G13.out.1);clear hp5 ht5 ho5 hq5 c0 c1 c2 c3 cz;obtain ⟨c0,c1,c2,c3⟩:=x5.out.cells4;have cz:=x5.out.lt;have cf:=x5.out.frozen))
    have z4:=HB4.out.size;have z3:=HG3.out.size;have z2:=HB2.out.size;have zx2:=x2.out.lt;have zx3:=x3.out.lt;have zx4:=x4.out.lt;have zX:=G6.out.lt;simp only [World.size_alloc] at z3;have nx5:some xb∉X5:=TU5.out.out G13.out.1 zx4;have PA:=(G9.out.below HB2.out).below (Ag w2 (.cells #[.int .i64 x.n,.int .i64 2,.int .i64 L,.slice sl2.1 m sl2.2,.int .i64 (U.length:Nat)] 122))
    have P3:=PA.snoc (s:=upS ⟨A,x,U,V,B⟩) (a:=sl2) (by have:=HO3.out;rw [HST.out] at this;exact this) HG3.out HA3.out (fun i hi=>by have:=zX i hi;simp only [World.size_alloc];omega) (own_below (own_below G11.out HB2.out) (Ag _ _)) G12.out
    have P5:=(P3.below HB4.out).turn TU5.out
    have hgg:gg≠xb:=by
     rcases HA3.out with e | e
     ·rintro rfl;exact G13.out.2.1 e
     ·simp only [World.size_alloc] at e;omega
    have hrs:∀ b∈rs++[sl2],adB b≠some xb:=fun b hb=>by
     rcases List.mem_append.1 hb with hb | hb
     ·exact G13.out.2.2.1 b hb
     ·rw [List.mem_singleton.1 hb];exact G13.out.2.2.2
    have hsl:∀ g,adB (sl5,cp5)=some g→w4.heap.size≤g:=fun g hg=>(RO5.out.lt g (by rw [← hg];exact Gf ⟨y.n,pgN r.isEmpty B' y,0⟩ (sl5,cp5))).1
    go_roundw
    case rel =>
     refine ⟨A',y,B',⟨A,x,U,V,B⟩ :: ups,r,rs++[sl2],X5,(sl5,cp5),E5.out,E6.out,E7.out, ?_, ?_,PT5.out.Me nx5, ?_, ?_, ?_,x5.out.Me, ?_, ?_,nx5, ?_,hrs, ?_,ZX.out⟩
     ·have:=G4.out;simp only [List.length_cons] at this ⊢;omega
     ·rw [← G5.out,E3.out];rfl
     ·exact (((((G7.out.next HB2.out).next (Ag _ _)).HC0 HG3.out (fun g hg=>(G9.out.own.lt g hg).1)).next HB4.out).trans TU5.out).Ho ZX.out
     ·exact (TM4.out.turn TU5.out).Me (by have:=HTZ.out;have:=ZX.out;omega)
     ·rw [FE0]
      exact P5.Me (fun e=>hgg (Option.some.inj e)) hrs
     ·exact Na (own_base RO5.out (by have:=G7.out.size;omega)) (fun e=>by have:=hsl xb (by rw [← e];exact (Gf ⟨y.n,pgN r.isEmpty B' y,0⟩ (sl5,cp5)).symm);omega)
     ·intro g hg
      have h1:=hsl g hg
      refine ⟨RQ5.out g (by rw [← hg];exact Gf ⟨y.n,pgN r.isEmpty B' y,0⟩ (sl5,cp5)),fun b hb e=>?_,fun e=>?_⟩
      ·have:=(P3.rows.lt b hb g e).2;omega
      ·have:=(P3.own.lt g e).2;omega
     ·exact fun e=>hgg (Option.some.inj e)
     ·intro e;have:=hsl xb e;omega
    case measure =>
     have h1:=XB0 G9.out.own;have h2:=G4.out;have h3:=Ce ups;simp only [List.length_cons] at h2
     show Ds0.length-((Gw ups).length+1)<Ds0.length-lenOf u5
     omega
def Tz:Go.Shelf.Ren:=⟨fun | 22=>53 | 17=>215 | 29=>139 | 30=>140 | 36=>197 | n=>n,fun | 24=>44 | 9=>9 | 3=>3 | 4=>4 | 0=>0 | n=>n,fun | n=>n⟩
theorem DU0:Go.Proofs.Lays2.n22 Tryz.prog Tz:={
 mixed:=by kernel_rfl
 f17:=Tryz.func215.trans (congrArg some (by kernel_rfl))
 f22:=Tryz.func53.trans (congrArg some (by kernel_rfl))
 f29:=Tryz.func139.trans (congrArg some (by kernel_rfl))
 f30:=Tryz.func140.trans (congrArg some (by kernel_rfl))
 f36:=Tryz.func197.trans (congrArg some (by kernel_rfl))
 t0:=Tryz.underlying0
 a0:=Tryz.isAgg0
 z0:=Tryz.sizeOf0
 v0:=Tryz.zeroValue0
 t3:=Tryz.underlying3
 a3:=Tryz.isAgg3
 z3:=Tryz.sizeOf3
 v3:=Tryz.zeroValue3
 t4:=Tryz.underlying4
 a4:=Tryz.isAgg4
 z4:=Tryz.sizeOf4
 v4:=Tryz.zeroValue4
 t9:=Tryz.underlying9
 a9:=Tryz.isAgg9
 z9:=Tryz.sizeOf9
 v9:=Tryz.zeroValue9
 t24:=Tryz.underlying44
 a24:=Tryz.isAgg44
 z24:=Tryz.sizeOf44
 v24:=Tryz.zeroValue44
 i9:=by kernel_rfl }
def CG1 (cur:Array Value):Nat→List Value→Array Value
 | _,[]=>cur
 | o,v :: r=>CG1 (cur.setIfInBounds o v) (o+1) r
theorem Jf:∀ (vs:List Value) (o:Nat) (cur:Array Value),(CG1 cur o vs).size=cur.size
 | [],_,_=>rfl
 | v :: r,o,cur=>by rw [CG1,Jf];simp
theorem Qu:∀ (vs:List Value) (o:Nat) (cur:Array Value) (j:Nat),(CG1 cur o vs)[j]? = if o≤j∧j<o+vs.length∧j<cur.size then vs[j-o]? else cur[j]?
 | [],o,cur,j=>by
   rw [CG1,if_neg];rintro ⟨h1,h2,_⟩;simp at h2;omega
 | v :: r,o,cur,j=>by
   rw [CG1,Qu r (o+1) _ j];simp only [List.length_cons,Array.size_setIfInBounds]
   by_cases h:o+1≤j∧j<o+1+r.length∧j<cur.size
   ·rw [if_pos h,if_pos ⟨by omega,by omega,h.2.2⟩]
    rw [show j-o=(j-(o+1))+1 by omega,List.getElem?_cons_succ]
   ·rw [if_neg h,Array.getElem?_setIfInBounds]
    by_cases e:o=j
    ·subst e
     rw [if_pos rfl]
     by_cases hs:o<cur.size
     ·rw [if_pos hs,if_pos ⟨Nat.le_refl _,by omega,hs⟩];simp
     ·rw [if_neg hs,if_neg (fun h=>hs h.2.2),Array.getElem?_eq_none (by omega)]
    ·rw [if_neg e,if_neg (fun h2=>h ⟨by omega,by omega,h2.2.2⟩)]
theorem Hf {g:Nat} {t:TypeId}:∀ (vs:List Value) (o:Nat) (w:World) (cur:Array Value),Has w g t cur→Has (w.setCells g o vs) g t (CG1 cur o vs)
 | [],_,_,_,h=>h
 | v :: r,o,w,cur,h=>Hf r (o+1) _ _ (h.set o v)
theorem Hl {g:Nat}:∀ (vs:List Value) (o:Nat) (w:World) (r:Option Nat),r=some g→w.grownBy (w.setCells g o vs) r
 | [],_,w,_,_=>⟨rfl,rfl,rfl,Nat.le_refl _,fun _ _ _=>rfl⟩
 | v :: vs,o,w,r,h=>by
   have:=Hl vs (o+1) (w.setCell ⟨g,o,none⟩ v) r h
   refine ⟨this.os,this.tape,this.output,by have:=this.size;simpa [World.setCells] using this,fun k hk hn=>?_⟩
   exact (this.block k (by simpa using hk) hn).trans (Below.heap_setCell _ _ _ _ (fun e=>hn (by rw [h];exact congrArg some e)))
theorem Wp {w w1 w2:World} {r:Option Nat} (h:w.grownBy w1 r) (k:w1.grownBy w2 r):w.grownBy w2 r :=
 ⟨k.os.trans h.os,k.tape.trans h.tape,k.output.trans h.output,Nat.le_trans h.size k.size,fun i hi hn=>(k.block i (Nat.lt_of_lt_of_le hi h.size) hn).trans (h.block i hi hn)⟩
theorem grown_drew (w:World) (r:Option Nat):w.grownBy w.drew r:=⟨rfl,rfl,rfl,Nat.le_refl _,fun _ _ _=>rfl⟩
theorem row_of {w:World} {g cap n base:Nat} {cur:Array Value} {xs:List Value} (h:Has w g 9 cur) (hb:base≤g) (hc:cur.size=cap) (hn:n≤cap) (hm:cap≤maxLen) (hl:xs.length=n) (hx:∀ j,j<n→cur[j]? = xs[j]?):w.ownsRow base 9 1 (.slice (some ⟨g,0,none⟩) n cap) n xs:=by
 refine ⟨by omega,.inr ⟨g,cap,cur,rfl,hb,h,hn,hm,by omega, ?_⟩⟩
 refine List.ext_getElem? fun j=>?_
 rw [Nat.mul_one,List.getElem?_take]
 by_cases hj:j<n
 ·rw [if_pos hj,Array.getElem?_toList];exact hx j hj
 ·rw [if_neg hj,List.getElem?_eq_none (by omega)]
def NY0 (w:World) (base:Nat) (v:Value) (n:Nat) (xs:List ByteArray) (en:Ending) (w':World):Prop :=
 ∃ v',en = .returned v'∧w'.ownsRow base 9 1 v' n (strs xs)∧w.grownBy w' v.ownBlock∧(v'.ownBlock=v.ownBlock∨v'.ownBlock=some w.heap.size)
theorem GX0 (l:List ByteArray):∀ u∈strs l,u.oneCell'=true:=fun u hu=>by
 obtain ⟨s,_,rfl⟩:=List.mem_map.1 hu;rfl
theorem Dt (l:List ByteArray):(strs l).length=l.length:=by simp [strs]
theorem NI0 {l:List ByteArray} {i:Nat} (c:ByteArray) (hi:i≤l.length):(strs (l.take i++c :: l.drop i)).length=l.length+1:=by
 rw [Dt];simp;omega
theorem JD0 {l:List ByteArray} {i:Nat} (c:ByteArray) (hi:i≤l.length) (j:Nat):(strs (l.take i++c :: l.drop i))[j]? = if j<i then (strs l)[j]? else if j=i then some (.string c) else (strs l)[j-1]? := by
 unfold strs;rw [List.map_append,List.map_cons]
 by_cases h:j<i
 ·rw [if_pos h,List.getElem?_append_left (by simp;omega)]
  simp [List.getElem?_take,h]
 ·rw [if_neg h,List.getElem?_append_right (by simp;omega)]
  have e:(List.map Value.string (l.take i)).length=i:=by simp;omega
  rw [e]
  by_cases h2:j=i
  ·rw [if_pos h2,h2,Nat.sub_self];rfl
  ·rw [if_neg h2,show j-i=(j-i-1)+1 by omega,List.getElem?_cons_succ]
   simp only [List.getElem?_map,List.getElem?_drop]
   congr 2;omega
theorem Nb {w:World} {base n i vb:Nat} {v:Value} {l:List ByteArray} {c:ByteArray} (h:w.ownsRow base 9 1 v n (strs l)) (hi:i≤n) (hv:Has w vb 9 #[.string c]) (hne:v.ownBlock≠some vb) (hbig:n≤1000000) (hb:base≤w.heap.size) :
 Calls Tryz.prog 53 #[v,.int .i64 i,.slice (some ⟨vb,0,none⟩) 1 1] w (NY0 w base v (n+1) (l.take i++c :: l.drop i)):=by
 have hl:l.length=n:=by have:=h.1;rw [Dt] at this;omega
 have hvs:∀ j u,[Value.string c][j]? = some u→w.cell? ⟨vb,0+j,none⟩=some u:=fun j u hu=>by
  rw [Nat.zero_add,hv.cell]
  simpa using hu
 have h1v:∀ u∈[Value.string c],u.oneCell'=true:=fun u hu=>by rw [List.mem_singleton.1 hu];rfl
 have hsl:(strs l).length=n:=by rw [Dt,hl]
 have hil:i≤l.length:=by omega
 have fresh:∀ (W:World) (cap:Nat) (xs:Array Value),w.grownBy W v.ownBlock→Has W w.heap.size 9 xs→xs.size=cap→n+1≤cap→cap≤maxLen→(∀ j,j<n+1→xs[j]? = (strs (l.take i++c :: l.drop i))[j]?)→NY0 w base v (n+1) (l.take i++c :: l.drop i) (.returned (.slice (some ⟨w.heap.size,0,none⟩) (n+1) cap)) W:=fun W cap xs hW hx hs hn hm hj =>
  ⟨_,rfl,row_of hx hb hs hn hm (by rw [NI0 c hil,hl]) hj,hW,.inr rfl⟩
 have hmx:n+1≤maxLen:=by unfold maxLen;omega
 rcases h.2 with ⟨rfl,rfl⟩ | ⟨g,cap,cur,rfl,hbg,hg,hnc,hcm,hcs,htake⟩
 ·obtain rfl:i=0:=by omega
  have l0:l=[]:=List.length_eq_zero_iff.1 hl;subst l0
  refine (Any2.slices_Insert_string_end_grow DU0 none 0 0 vb 0 1 1 [] [.string c] w (by omega) (by omega) (by omega) (by omega) rfl rfl (fun _=>rfl) (fun a e=>by cases e) hvs h1v).mono ?_
  rintro e w' ⟨rfl,rfl⟩;have hge:=grownCap_ge w (0+1) 0 (Tz.t 9)
  have hle:=grownCap_le_maxLen w (0+1) 0 (Tz.t 9) (by omega)
  refine fresh _ _ _ ⟨rfl,rfl,rfl,by simp,fun k hk _=>heap_alloc_old w.drew _ hk⟩ (heap_alloc_new w.drew _) ?_ (by omega) hle (fun j hj=>?_)
  ·simp only [Array.size_append,List.size_toArray,size_zeroCells]
   show 1+_*1=_
   omega
  ·obtain rfl:j=0:=by omega
   rw [Array.getElem?_append_left (by simp)];rfl
 ·have H:Has w g 9 cur:=hg
  have hcz:cur.size=cap:=by omega
  have hcur:∀ j,j<n→cur[j]? = (strs l)[j]? := fun j hj=>by
   rw [← htake,Nat.mul_one,List.getElem?_take,if_pos hj,Array.getElem?_toList]
  have hcl:∀ j u,(strs l)[j]? = some u→w.cell? ⟨g,0+j,none⟩=some u:=fun j u hu=>by
   have hj:j<n:=by have:=(List.getElem?_eq_some_iff.1 hu).1;omega
   rw [Nat.zero_add,H.cell,hcur j hj,hu]
  have hgv:vb≠g:=fun e=>hne (by rw [e];rfl)
  have h63:cap≤9223372036854775807:=by unfold maxLen at hcm;omega
  by_cases hroom:n+1≤cap
  ·by_cases hin:i<n
   ·refine (Any2.slices_Insert_string_shift DU0 g 0 n cap i vb 0 1 1 (strs l) [.string c] w hin (by omega) hroom h63 hgv hsl rfl hcl (fun j hj=>?_) (fun j hj=>H.frozen _) hvs (GX0 l) h1v 9 9 1 cap ?_ ?_ (by omega) (hv.frozen _) (hv.frozen _)).mono ?_
    ·rw [Nat.zero_add,H.cell]
     simp;omega
    ·unfold World.shape?;rw [show w.heap[vb]? = _ from hv];rfl
    ·unfold World.shape?;rw [show w.heap[g]? = _ from H];simp [hcz]
    rintro e w' ⟨rfl,rfl⟩;have H2:=Hf [.string c] (0+i) _ _ (Hf ((strs l).drop i) (0+(i+1)) _ _ H.drew)
    refine ⟨_,rfl,row_of H2 hbg (by rw [Jf,Jf,hcz]) hroom hcm (by rw [NI0 c hil,hl]) (fun j hj=>?_),Wp (grown_drew w _) (Wp (Hl _ _ _ _ rfl) (Hl _ _ _ _ rfl)),.inl rfl⟩
    rw [Qu,Qu,JD0 c hil,Jf,List.length_drop,hsl];simp only [List.length_singleton,Nat.zero_add]
    by_cases c1:j<i
    ·rw [if_neg (by omega),if_neg (by omega),if_pos c1,hcur j (by omega)]
    ·rw [if_neg c1]
     by_cases c2:j=i
     ·subst c2
      rw [if_pos (by omega),if_pos rfl,Nat.sub_self];rfl
     ·rw [if_neg (by omega),if_neg c2,if_pos (by omega),List.getElem?_drop]
      congr 1;omega
   ·obtain rfl:i=n:=by omega
    refine (Any2.slices_Insert_string_end_room DU0 g 0 i cap vb 0 1 1 [.string c] w (by omega) hroom h63 rfl (fun j hj=>?_) (fun j hj=>H.frozen _) hvs h1v).mono ?_
    ·rw [H.cell];simp;omega
    rintro e w' ⟨rfl,rfl⟩;have H2:=Hf [.string c] (0+i) _ _ H
    refine ⟨_,rfl,row_of H2 hbg (by rw [Jf,hcz]) hroom hcm (by rw [NI0 c hil,hl]) (fun j hj=>?_),Hl _ _ _ _ rfl,.inl rfl⟩
    rw [Qu,JD0 c hil];simp only [List.length_singleton,Nat.zero_add]
    by_cases c1:j<i
    ·rw [if_neg (by omega),if_pos c1,hcur j (by omega)]
    ·obtain rfl:j=i:=by omega
     rw [if_pos (by omega),if_neg c1,if_pos rfl,Nat.sub_self];rfl
  ·have hge:=grownCap_ge w (n+1) cap (Tz.t 9)
   have hle:=grownCap_le_maxLen w (n+1) cap (Tz.t 9) hmx
   by_cases hin:i<n
   ·refine (Any2.slices_Insert_string_grow DU0 g 0 n cap i vb 0 1 1 (strs l) [.string c] w hin (by omega) hnc (by omega) (by omega) hsl rfl hcl hvs (GX0 l) h1v).mono ?_
    rintro e w' ⟨rfl,rfl⟩;have HA:=Has.new w 9 (((strs l).take i).toArray++Builtin.zeroCells (Value.string ⟨#[]⟩).cells (n+1-i)++Builtin.zeroCells (Value.string ⟨#[]⟩).cells (grownCap w (n+1) cap (Tz.t 9)-(n+1)));have H2:=Hf ((strs l).drop i) (i+1) _ _ (Hf [.string c] i _ _ HA.drew).drew
    have hsz:(((strs l).take i).toArray++Builtin.zeroCells (Value.string ⟨#[]⟩).cells (n+1-i)++Builtin.zeroCells (Value.string ⟨#[]⟩).cells (grownCap w (n+1) cap (Tz.t 9)-(n+1))).size=grownCap w (n+1) cap (Tz.t 9):=by
     simp only [Array.size_append,List.size_toArray,size_zeroCells,List.length_take,hsl]
     show min i n+_*1+_*1=_
     omega
    refine fresh _ _ _ ?_ H2 (by rw [Jf,Jf,hsz]) (by omega) hle (fun j hj=>?_)
    ·have q1:w.grownBy (w.alloc (.cells (((strs l).take i).toArray++Builtin.zeroCells (Value.string ⟨#[]⟩).cells (n+1-i)++Builtin.zeroCells (Value.string ⟨#[]⟩).cells (grownCap w (n+1) cap (Tz.t 9)-(n+1))) 9)) (some g):=⟨rfl,rfl,rfl,by simp,fun k hk _=>heap_alloc_old w _ hk⟩
     have q2:=Hl (g:=w.heap.size) [.string c] i (w.alloc (.cells (((strs l).take i).toArray++Builtin.zeroCells (Value.string ⟨#[]⟩).cells (n+1-i)++Builtin.zeroCells (Value.string ⟨#[]⟩).cells (grownCap w (n+1) cap (Tz.t 9)-(n+1))) 9)).drew _ rfl;have q3:=Hl (g:=w.heap.size) ((strs l).drop i) (i+1) (((w.alloc (.cells (((strs l).take i).toArray++Builtin.zeroCells (Value.string ⟨#[]⟩).cells (n+1-i)++Builtin.zeroCells (Value.string ⟨#[]⟩).cells (grownCap w (n+1) cap (Tz.t 9)-(n+1))) 9)).drew.setCells w.heap.size i [.string c])).drew _ rfl
     refine ⟨q3.os.trans (q2.os.trans q1.os),q3.tape.trans (q2.tape.trans q1.tape),q3.output.trans (q2.output.trans q1.output),Nat.le_trans q1.size (Nat.le_trans q2.size q3.size),fun k hk hn=>?_⟩
     have hkn:some k≠some w.heap.size:=fun e=>by cases e;omega
     exact (q3.block k (Nat.lt_of_lt_of_le (Nat.lt_of_lt_of_le hk q1.size) q2.size) hkn).trans ((q2.block k (Nat.lt_of_lt_of_le hk q1.size) hkn).trans (q1.block k hk hn))
    ·rw [Qu,Qu,JD0 c hil,Jf,List.length_drop,hsl,hsz]
     simp only [List.length_singleton]
     by_cases c1:j<i
     ·rw [if_neg (by omega),if_neg (by omega),if_pos c1]
      rw [Array.getElem?_append_left (by simp [hsl];omega),Array.getElem?_append_left (by simp [hsl];omega)]
      rw [List.getElem?_toArray,List.getElem?_take,if_pos c1]
     ·rw [if_neg c1]
      by_cases c2:j=i
      ·subst c2
       rw [if_neg (by omega),if_pos (by omega),if_pos rfl,Nat.sub_self];rfl
      ·rw [if_pos (by omega),if_neg c2,List.getElem?_drop]
       congr 1;omega
   ·obtain rfl:i=n:=by omega
    refine (Any2.slices_Insert_string_end_grow DU0 (some ⟨g,0,none⟩) i cap vb 0 1 1 (strs l) [.string c] w (by omega) hnc (by omega) (by omega) hsl rfl (fun e=>by cases e) (fun a e j u hu=>by cases e;rw [Addr.add_lit];exact hcl j u hu) hvs h1v).mono ?_
    rintro e w' ⟨rfl,rfl⟩
    refine fresh _ _ _ ⟨rfl,rfl,rfl,by simp,fun k hk _=>heap_alloc_old w.drew _ hk⟩ (heap_alloc_new w.drew _) ?_ (by omega) hle (fun j hj=>?_)
    ·simp only [Array.size_append,List.size_toArray,size_zeroCells,List.length_append,hsl,List.length_singleton]
     show i+1+_*1=_
     omega
    ·rw [JD0 c hil,Array.getElem?_append_left (by simp [hsl];omega),List.getElem?_toArray]
     by_cases c1:j<i
     ·rw [if_pos c1,List.getElem?_append_left (by omega)]
     ·obtain rfl:j=i:=by omega
      rw [if_neg c1,if_pos rfl,List.getElem?_append_right (by omega),hsl,Nat.sub_self];rfl
theorem DO0 {g:Nat}:∀ (vs:List Value) (o q:Nat) (w:World) (cur:Array Value),Has w g 9 cur→Has ((w.drewN q).setCells g o vs) g 9 (CG1 cur o vs):=fun vs o q w cur h=>Hf vs o _ _ (h.drewN q)
theorem Rq {w:World} {base n i:Nat} {v:Value} {l:List ByteArray} (h:w.ownsRow base 9 1 v n (strs l)) (hi:i<n) (hbig:n≤1000000) {x y:Int} (hx:x=i) (hy:y=i+1) :
 Calls Tryz.prog 56 #[v,.int .i64 x,.int .i64 y] w (NY0 w base v (n-1) (l.take i++l.drop (i+1))):=by
 subst hx
 obtain rfl:y=((i+1:Nat):Int):=by omega
 have hl:l.length=n:=by have:=h.1;rw [Dt] at this;omega
 rcases h.2 with ⟨_,h0⟩ | ⟨g,cap,cur,rfl,hbg,hg,hnc,hcm,hcs,htake⟩
 ·omega
 have H:Has w g 9 cur:=hg
 have hcz:cur.size=cap:=by omega
 have hcur:∀ j,j<n→cur[j]? = (strs l)[j]? := fun j hj=>by
  rw [← htake,Nat.mul_one,List.getElem?_take,if_pos hj,Array.getElem?_toList]
 have hSx:∀ j,j<n→w.cell? ⟨g,0+j,none⟩=some (.string (l.getD j ⟨#[]⟩)):=fun j hj=>by
  rw [Nat.zero_add,H.cell,hcur j hj];unfold strs
  rw [List.getElem?_map,List.getD_eq_getElem?_getD,List.getElem?_eq_getElem (by omega)];rfl
 refine (Tryz.slices_Delete_string_cells g 0 n cap i (i+1) (fun j=>l.getD j ⟨#[]⟩) w hnc (by unfold maxLen at hcm;omega) (by omega) (by omega) hSx (fun j hj=>H.frozen _)).mono ?_
 rintro e w' ⟨rfl,q,rfl⟩
 have eS:Lib.strsOf (fun j=>l.getD j ⟨#[]⟩) n=l.map (fun s=>s.data.toList):=by
  refine List.ext_getElem? fun j=>?_
  unfold Lib.strsOf;rw [List.getElem?_map,List.getElem?_map]
  by_cases hj:j<n
  ·rw [List.getElem?_range hj,List.getElem?_eq_getElem (by omega:j<l.length)]
   simp only [Option.map_some,List.getD_eq_getElem?_getD]
   rw [List.getElem?_eq_getElem (by omega:j<l.length)];rfl
  ·rw [List.getElem?_eq_none (by simp;omega),List.getElem?_eq_none (by omega)];rfl
 have eE:∀ k:List ByteArray,(k.map (fun s=>s.data.toList)).map Go.Proofs.encStr=strs k:=fun k=>by
  rw [List.map_map];rfl
 have H2:=DO0 ((((Lib.strsOf (fun j=>l.getD j ⟨#[]⟩) n).take i++(Lib.strsOf (fun j=>l.getD j ⟨#[]⟩) n).drop (i+1)++List.replicate (i+1-i) []).map Go.Proofs.encStr)) 0 q w cur H
 have hz:n-(i+1-i)=n-1:=by omega
 have hlen:((l.take i++l.drop (i+1))).length=n-1:=by simp;omega
 rw [hz]
 refine ⟨_,rfl,row_of H2 hbg (by rw [Jf,hcz]) (by omega) hcm (by rw [Dt,hlen]) (fun j hj=>?_),Wp (r:=some g) (w1:=w.drewN q) ⟨rfl,rfl,rfl,Nat.le_refl _,fun _ _ _=>rfl⟩ (Hl _ _ _ _ rfl),.inl rfl⟩
 rw [Qu,eS,List.map_append,List.map_append,← List.map_take,← List.map_drop,eE,eE]
 have h1:(strs (l.take i)).length=i:=by rw [Dt];simp;omega
 have h2:(strs (l.drop (i+1))).length=n-(i+1):=by rw [Dt];simp;omega
 rw [if_pos ⟨Nat.zero_le _,by simp only [List.length_append,h1,h2];omega,by omega⟩,Nat.sub_zero,List.getElem?_append_left (by simp only [List.length_append,h1,h2];omega)]
 unfold strs;rw [← List.map_append]
theorem Gn {w:World} {A:Option Addr} {m c:Nat} {l:List ByteArray} (h:SS w A m l) (hbig:m≤1000000) :
 Calls Tryz.prog 198 #[.slice A m c] w (fun e w'=>∃ v',e = .returned v'∧w'.ownsRow w.heap.size 9 1 v' m (strs l)∧Below w.heap.size w w'):=by
 cases A with
 | none =>
   have hm:m=0:=by
    refine Classical.byContradiction fun hn=>?_
    obtain ⟨b,off,e,_⟩:=h.2 (by omega)
    cases e
   subst hm;have l0:l=[]:=List.length_eq_zero_iff.1 h.1;subst l0
   refine (Tryz.slices_Clone_string_nil 0 c w).mono ?_
   rintro e w' ⟨rfl,rfl⟩;exact ⟨_,rfl,⟨rfl,.inl ⟨rfl,rfl⟩⟩,Below.refl _ _⟩
 | some a =>
   by_cases hm:m=0
   ·subst hm
    have l0:l=[]:=List.length_eq_zero_iff.1 h.1;subst l0
    refine (Tryz.slices_Clone_string_zero a c w).mono ?_
    rintro e w' ⟨v',rfl,h1,_,h2⟩;exact ⟨v',rfl,h1,h2⟩
   ·obtain ⟨b,off,e,hb,hc⟩:=h.2 (by omega)
    cases e
    refine (Tryz.slices_Clone_string b off m c l w (by rw [h.1];exact Nat.le_refl _) (by omega) (fun j hj=>hc j _ ?_)).mono ?_
    ·rw [List.getD_eq_getElem?_getD,List.getElem?_eq_getElem hj];rfl
    rintro e w' ⟨v',rfl,h1,_,h2⟩
    rw [List.take_of_length_le (by rw [h.1];exact Nat.le_refl _)] at h1
    exact ⟨v',rfl,h1,h2⟩
theorem Has.Ij {w:World} {g g':Nat} {t:TypeId} {cs:Array Value} {x y z u:Value} (h:Has w g t cs) (hg:g≠g'):Has ((((w.setCell ⟨g',0,none⟩ x).setCell ⟨g',1,none⟩ y).setCell ⟨g',2,none⟩ z).setCell ⟨g',3,none⟩ u) g t cs:=(((h.far (p:=⟨g',0,none⟩) hg x).far (p:=⟨g',1,none⟩) hg y).far (p:=⟨g',2,none⟩) hg z).far (p:=⟨g',3,none⟩) hg u
theorem Jl {w:World} {g g' i:Nat} {v x y z u:Value} (h:w.cell? ⟨g,i,none⟩=some v) (hg:g≠g'):((((w.setCell ⟨g',0,none⟩ x).setCell ⟨g',1,none⟩ y).setCell ⟨g',2,none⟩ z).setCell ⟨g',3,none⟩ u).cell? ⟨g,i,none⟩=some v:=by
 refine (World.cell?_of_block (a:=⟨g,i,none⟩) ?_).trans h
 exact (Below.heap_setCell _ _ _ _ hg).trans ((Below.heap_setCell _ _ _ _ hg).trans ((Below.heap_setCell _ _ _ _ hg).trans (Below.heap_setCell _ _ _ _ hg)))
theorem Yl {w:World} {base n k:Nat} {e:TypeId} {v:Value} {xs:List Value} (h:w.ownsRow base e k v n xs):w.drew.ownsRow base e k v n xs:=h
theorem Qn {w:World} {a:Addr} {v:Value} (h:w.cell? a=some v):w.drew.cell? a=some v:=h
theorem ER1 {w:World} {g1 g2 g3 i:Nat} {t1 t2:TypeId} {a b c d e f h k v:Value} (h1:Has w g1 t1 #[a,b,c,d]) (h2:Has w g2 t2 #[e,f,h,k]) (h3:w.cell? ⟨g3,i,none⟩=some v):w.cell? ⟨g1,0,none⟩=some a∧w.cell? ⟨g1,1,none⟩=some b∧w.cell? ⟨g1,2,none⟩=some c∧w.cell? ⟨g1,3,none⟩=some d∧w.cell? ⟨g2,0,none⟩=some e∧w.cell? ⟨g2,1,none⟩=some f∧w.cell? ⟨g2,2,none⟩=some h∧w.cell? ⟨g2,3,none⟩=some k∧w.cell? ⟨g3,i,none⟩=some v :=
 ⟨h1.cell 0,h1.cell 1,h1.cell 2,h1.cell 3,h2.cell 0,h2.cell 1,h2.cell 2,h2.cell 3,h3⟩
theorem Pe {B g:Nat} {w w':World} {x y z u:Value} (h:Below B w w') (hg:B≤g):Below B w ((((w'.setCell ⟨g,0,none⟩ x).setCell ⟨g,1,none⟩ y).setCell ⟨g,2,none⟩ z).setCell ⟨g,3,none⟩ u):=(((h.setCell (p:=⟨g,0,none⟩) hg x).setCell (p:=⟨g,1,none⟩) hg y).setCell (p:=⟨g,2,none⟩) hg z).setCell (p:=⟨g,3,none⟩) hg u
theorem BQ0:∀ (l:List It) (h i:Nat),h≤Ai l→i≤l.length→(Ai (l.take i)<h↔i<cutAt h l)
 | [],h,i,hu,_=>by
   have:h=0:=by simpa [Ai] using hu
   subst this;simp [cutAt]
 | a :: l,h,0,hu,_=>by
   unfold cutAt
   by_cases h0:h=0
   ·rw [if_pos h0];simp [Ai,h0]
   ·rw [if_neg h0];simp [Ai];omega
 | a :: l,h,i+1,hu,hi=>by
   have hp:0<szI a:=by unfold szI;omega
   unfold cutAt;rw [List.take_succ_cons,Df]
   by_cases h0:h=0
   ·rw [if_pos h0];omega
   ·rw [if_neg h0]
    by_cases h1:h≤szI a
    ·have:cutAt (h-szI a) l=0:=by rw [show h-szI a=0 by omega];cases l <;> simp [cutAt]
     rw [this];omega
    ·have:=BQ0 l (h-szI a) i (by rw [Df] at hu;omega) (by simpa using hi)
     omega
theorem BR0 {w:World} {n l m c:Nat} {A:Option Addr} {its:List It} (tv:Value) (h:SS w A m (its.map Af)) (hw:LX0 its) (hm:m≤1000) (hmc:m≤c) (hc:c≤9223372036854775807) (h0:0<cutAt (Ai its / 2) its) (h1:cutAt (Ai its / 2) its<m) (hu:Ai its≤100000) :
 Calls Tryz.prog 143 #[tv,.agg #[.int .i64 n,.int .i64 1,.int .i64 l,.slice A m c]] w fun e w'=>∃ va vb,e = .returned (.tuple #[.agg #[.int .i64 n,.int .i64 1,.int .i64 l,va],.string (bsK (its.getD (cutAt (Ai its / 2) its) ⟨[],[]⟩).k),.agg #[.int .i64 n,.int .i64 1,.int .i64 l,vb]]) ∧
  w'.ownsRow w.heap.size 9 1 va (cutAt (Ai its / 2) its) (strs ((its.take (cutAt (Ai its / 2) its)).map Af))∧w'.ownsRow w.heap.size 9 1 vb (m-cutAt (Ai its / 2) its) (strs ((its.drop (cutAt (Ai its / 2) its)).map Af))∧(∀ g,va.ownBlock=some g→vb.ownBlock≠some g)∧Below w.heap.size w w':=by
 obtain ⟨hl,hcell⟩:=HJ0 h
 obtain ⟨b,off,rfl,hb,hcc⟩:=hcell (by omega)
 have CI:=Ac (fun i (hi:i≤its.length)=>BQ0 its (Ai its / 2) i (by omega) hi)
 have HS:=Ac h;have HC:=Ac hcc;have HL:=Ac hl
 have US:=Ac (fun W (h:SS W (some ⟨b,off,none⟩) m (its.map Af))=>Gh (some ⟨b,off,none⟩) m c (its.map Af) W h (by omega) (by rw [Ee];omega))
 rw [Ee] at US;obtain ⟨ct,hct⟩:∃ ct,cutAt (Ai its / 2) its=ct:=⟨_,rfl⟩;rw [hct] at CI h0 h1 ⊢;obtain ⟨us,hus⟩:∃ us,Ai its=us:=⟨_,rfl⟩;rw [hus] at US CI hu;have HW:=Ac hw;clear h hcell hcc hl hct hus hw
 go_enter Tryz.func143,Tryz.ntmps143
 go_wp2_with fail
 have R0:=Has.new w 116 #[.int .i64 n,.int .i64 1,.int .i64 l,.slice (some ⟨b,off,none⟩) m c];have B0:=Ag w (.cells #[.int .i64 n,.int .i64 1,.int .i64 l,.slice (some ⟨b,off,none⟩) m c] 116)
 have z0:(w.alloc (.cells #[.int .i64 n,.int .i64 1,.int .i64 l,.slice (some ⟨b,off,none⟩) m c] 116)).heap.size=w.heap.size+1:=by simp
 generalize w.alloc (.cells #[.int .i64 n,.int .i64 1,.int .i64 l,.slice (some ⟨b,off,none⟩) m c] 116)=W0 at *
 have R1:=Has.new W0 116 #[.int .i64 0,.int .i64 0,.int .i64 0,.slice none 0 0];have B1:=Ag W0 (.cells #[.int .i64 0,.int .i64 0,.int .i64 0,.slice none 0 0] 116)
 have z1:(W0.alloc (.cells #[.int .i64 0,.int .i64 0,.int .i64 0,.slice none 0 0] 116)).heap.size=w.heap.size+1+1:=by simp [z0]
 replace R0:=R0.Aj B1
 replace B1:=Am B0 B1 B0.size
 rw [z0] at R1
 generalize W0.alloc (.cells #[.int .i64 0,.int .i64 0,.int .i64 0,.slice none 0 0] 116)=W1 at *
 have R2:=Has.new W1 116 #[.int .i64 0,.int .i64 0,.int .i64 0,.slice none 0 0];have B2:=Ag W1 (.cells #[.int .i64 0,.int .i64 0,.int .i64 0,.slice none 0 0] 116)
 have z2:(W1.alloc (.cells #[.int .i64 0,.int .i64 0,.int .i64 0,.slice none 0 0] 116)).heap.size=w.heap.size+1+1+1:=by simp [z1]
 replace R0:=R0.Aj B2
 replace R1:=R1.Aj B2
 replace B2:=Am B1 B2 B1.size
 rw [z1] at R2
 generalize W1.alloc (.cells #[.int .i64 0,.int .i64 0,.int .i64 0,.slice none 0 0] 116)=W at *
 clear B0 B1 z0 z1 W1 W0
 refine (US.out W (HS.out.keep B2)).mono ?_
 rintro en w' ⟨rfl,rfl⟩;obtain ⟨r00,r01,r02,r03⟩:=R0.cells4;have BW:=Ac B2
 have CW:=Ac (fun i (hi:i<its.length)=>((Vf B2).1 b (off+i) hb).trans (HC.out i hi))
 have HR0:=Ac R0;have HR1:=Ac R1;have HR2:=Ac R2;have ZW:=Ac z2;clear B2 R0 R1 R2 HC z2
 go_wp2_with fail
 go_loop [8,9] (fun i u=>∃ k q:Nat,k≤ct∧i = .int .i64 k∧u = .int .i64 q∧Hid (q=Ai (its.take k))) (fun i _=>ct-(intOf i).toNat)
 case atStart=>exact ⟨0,0,Nat.zero_le _,rfl,rfl,Ac rfl⟩
 case round =>
  obtain ⟨k,q,hk,rfl,rfl,hq⟩:=hrel
  have hci:=CI.out k (by rw [HL.out];omega)
  rw [← hq.out] at hci
  by_cases hlt:k<ct
  ·have hki:k<its.length:=by rw [HL.out];omega
   have hcell:=CW.out k hki;have hqs:=hci.2 hlt
   have hsz:Hid (Ai (its.take (k+1))=q+(4+(Af its[k]).size)):=Ac (by
    rw [List.take_succ_eq_append_getElem hki,Dw,← hq.out,Df,Gi,← BN0];omega)
   have hcz:(Af its[k]).size≤5400:=by
    have:=HW.out its[k] (List.getElem_mem _);rw [Ef];omega
   have hkm:k<m:=by omega
   obtain ⟨v,hv⟩:∃ v,Af its[k]=v:=⟨_,rfl⟩;rw [hv] at hcell hsz hcz;clear hv hki hci
   go_wp2_with fail
   go_round
   case rel=>exact ⟨k+1,q+(4+v.size),by omega,by go_num,by go_num,Ac hsz.out.symm⟩
   case measure=>simp [intOf];omega
  ·obtain rfl:k=ct:=by omega
   have hqs:¬ (q:Int)<(us:Int) / 2:=by
    have:=mt hci.1 hlt;omega
   clear hci hlt
   go_upto_region 6 with fail
   go_cut [30,31] (fun _ _ wx=>Has wx (w.heap.size+1) 116 #[.int .i64 n,.int .i64 1,.int .i64 l,.slice (some ⟨b,off,none⟩) m c]∧Has wx (w.heap.size+1+1) 116 #[.int .i64 n,.int .i64 1,.int .i64 l,.slice (some ⟨b,off,none⟩) m c]∧Has wx w.heap.size 116 #[.int .i64 n,.int .i64 1,.int .i64 l,.slice (some ⟨b,off,none⟩) m c]∧Below w.heap.size w wx)
   case first =>
    obtain ⟨s10,s11,s12,s13⟩:=HR1.out.cells4;obtain ⟨s20,s21,s22,s23⟩:=HR2.out.cells4;have f1:=HR1.out.frozen;have f2:=HR2.out.frozen;have y1:=HR1.out.lt;have y2:=HR2.out.lt;clear r00 r01 r02 r03;obtain ⟨r00,r01,r02,r03⟩:=HR0.out.cells4
    go_region
    go_wp2_with fail
    go_meet
    exact ⟨(HR1.out.Me.Ij (by omega)).drew,((HR2.out.Ij (by omega)).Me).drew,((HR0.out.Ij (by omega)).Ij (by omega)).drew,(Pe (Pe BW.out (by omega)) (by omega)).drew⟩
   case rest =>
    obtain ⟨T1,T2,T0,TB⟩:=hcut
    have LF:=Ac (fun W=>Ko n l (.slice (some ⟨b,off,none⟩) m c) W)
    have CL1:=Ac (fun W (h:SS W (some ⟨b,off,none⟩) k ((its.take k).map Af))=>Gn (A:=some ⟨b,off,none⟩) (c:=c) h (by omega))
    have CL2:=Ac (fun W (h:SS W (some ⟨b,off+k,none⟩) (m-k) ((its.drop k).map Af))=>Gn (A:=some ⟨b,off+k,none⟩) (c:=c-k) h (by omega))
    have SSK:=Ac (fun W (hb2:Below w.heap.size w W)=>(show SS W (some ⟨b,off,none⟩) k ((its.take k).map Af) from by
     have hs:=HS.out.keep hb2
     refine ⟨by simp [HL.out];omega,fun hn=>?_⟩
     obtain ⟨b',off',e1,e2,e3⟩:=hs.2 (by omega)
     refine ⟨b',off',e1,e2,fun i v hv=>e3 i v ?_⟩
     rw [List.map_take] at hv
     have hik:i<k:=by have:=(List.getElem?_eq_some_iff.1 hv).1;simp at this;omega
     rw [List.getElem?_take,if_pos hik] at hv;exact hv))
    have SSD:=Ac (fun W (hb2:Below w.heap.size w W)=>(show SS W (some ⟨b,off+k,none⟩) (m-k) ((its.drop k).map Af) from by
     have hs:=HS.out.keep hb2
     refine ⟨by simp [HL.out],fun hn=>?_⟩
     obtain ⟨b',off',e1,e2,e3⟩:=hs.2 (by omega)
     cases e1
     refine ⟨b,off+k,rfl,e2,fun i v hv=>?_⟩
     rw [List.map_drop,List.getElem?_drop] at hv;rw [Nat.add_assoc]
     exact e3 (k+i) v hv))
    have HT1:=Ac T1;have HT2:=Ac T2;have HT0:=Ac T0;have HTB:=Ac TB;have y1:=T1.lt;have y2:=T2.lt;clear r00 r01 r02 r03 HR0 HR1 HR2 BW CW;obtain ⟨r00,r01,r02,r03⟩:=T0.cells4;clear T0 T1 T2 TB
    have i1:k≤c:=by omega
    have i2:k<c:=by omega
    have i3:(k:Int)≤(m:Int):=by omega
    go_wp2_with (first
     | (go_at_call 130;refine (LF.out _).mono ?_;rintro en w1 ⟨rfl,hb1⟩;have P1:=Ac (HT1.out.Aj hb1);have P2:=Ac (HT2.out.Aj hb1);have P0:=Ac (HT0.out.Aj hb1);have PB:=Ac (Am HTB.out hb1 HTB.out.size);clear r00 r01 r02 r03 hb1 y1 y2;obtain ⟨r00,r01,r02,r03⟩:=P0.out.cells4;have y1:=P1.out.lt;have y2:=P2.out.lt)
     | (go_at_call 198;(with_reducible refine (CL1.out _ (SSK.out _ PB.out)).mono ?_);rintro en w2 ⟨va,rfl,ho2,hb2⟩;obtain ⟨A2,c2,rfl,_⟩:=Bd ho2;have O2:=Ac ho2;have Q1:=Ac (P1.out.Aj hb2);have Q2:=Ac (P2.out.Aj hb2);have Q0:=Ac (P0.out.Aj hb2);have QB:=Ac (Am PB.out hb2 PB.out.size);have HB2:=Ac hb2;clear r00 r01 r02 r03 hb2 ho2 y1 y2;obtain ⟨r00,r01,r02,r03⟩:=Q0.out.cells4;obtain ⟨r10,r11,r12,r13⟩:=Q1.out.cells4;have y1:=Q1.out.lt;have y2:=Q2.out.lt;have f1:=Q1.out.frozen)
     | (go_at_call 198;(with_reducible refine (CL2.out _ (SSD.out _ (QB.out.setCell (p:=⟨w.heap.size+1,3,none⟩) (Nat.le_succ _) (.slice A2 k c2)))).mono ?_);rintro en w3 ⟨vb,rfl,ho3,hb3⟩;obtain ⟨A3,c3,rfl,_⟩:=Bd ho3;have O3:=Ac ho3;have S1:=Ac ((Q1.out.set 3 (.slice A2 k c2)).Aj hb3);have S2:=Ac ((Q2.out.far (p:=⟨w.heap.size+1,3,none⟩) (by simp) (.slice A2 k c2)).Aj hb3);have S0:=Ac ((Q0.out.far (p:=⟨w.heap.size+1,3,none⟩) (by simp) (.slice A2 k c2)).Aj hb3);have SB:=Ac (Am (QB.out.setCell (p:=⟨w.heap.size+1,3,none⟩) (Nat.le_succ _) (.slice A2 k c2)) hb3 (by simpa using QB.out.size));have HB3:=Ac hb3;clear r00 r01 r02 r03 r10 r11 r12 r13 hb3 ho3 y1 y2 f1;obtain ⟨r00,r01,r02,r03⟩:=S0.out.cells4;obtain ⟨r20,r21,r22,r23⟩:=S2.out.cells4;have y1:=S1.out.lt;have y2:=S2.out.lt;have f2:=S2.out.frozen))
    have U1:=S1.out.far (p:=⟨w.heap.size+1+1,3,none⟩) (by simp) (.slice A3 (m-k) c3)
    have U2:=S2.out.set 3 (.slice A3 (m-k) c3)
    have UB:=SB.out.setCell (p:=⟨w.heap.size+1+1,3,none⟩) (by show w.heap.size≤w.heap.size+1+1;omega) (.slice A3 (m-k) c3)
    have w2z:w.heap.size+1+1<w2.heap.size:=by have:=Q2.out.lt;exact this
    have V2:(w3.setCell ⟨w.heap.size+1+1,3,none⟩ (.slice A3 (m-k) c3)).ownsRow w.heap.size 9 1 (.slice A2 k c2) k (strs ((its.take k).map Af)):=own_base (b:=w.heap.size) (Bf O2.out (fun g hg=>by
     have h1:=(O2.out.lt g hg).1;have h2:=(O2.out.lt g hg).2;have h3:w.heap.size+1+1<w1.heap.size:=P2.out.lt
     have q1:=Below.heap_setCell w3 ⟨w.heap.size+1+1,3,none⟩ (.slice A3 (m-k) c3) g (by show g≠w.heap.size+1+1;omega)
     have q2:=HB3.out.block g (by simpa using h2)
     have q3:=Below.heap_setCell w2 ⟨w.heap.size+1,3,none⟩ (.slice A2 k c2) g (by show g≠w.heap.size+1;omega)
     exact q1.trans (q2.trans q3))) (by have:=PB.out.size;omega)
    have V3:(w3.setCell ⟨w.heap.size+1+1,3,none⟩ (.slice A3 (m-k) c3)).ownsRow (w.heap.size+1+1+1) 9 1 (.slice A3 (m-k) c3) (m-k) (strs ((its.drop k).map Af)):=own_base (b:=w.heap.size+1+1+1) (Bf O3.out (fun g hg=>by
     have h1:=(O3.out.lt g hg).1
     exact Below.heap_setCell w3 ⟨w.heap.size+1+1,3,none⟩ (.slice A3 (m-k) c3) g (by show g≠w.heap.size+1+1;simp at h1;omega))) (by simp;omega)
    have BA:=Ac (fun g (hg:(Value.slice A2 k c2).ownBlock=some g)=>(show w.heap.size+1+1<g from by
     have h1:=(O2.out.lt g hg).1;have h3:w.heap.size+1+1<w1.heap.size:=P2.out.lt
     omega))
    have V4:∀ g,(Value.slice A2 k c2).ownBlock=some g→(Value.slice A3 (m-k) c3).ownBlock≠some g:=fun g hg e=>by
     have h1:=(O2.out.lt g hg).2;have h2:=(O3.out.lt g e).1;simp at h2;omega
    generalize w3.setCell ⟨w.heap.size+1+1,3,none⟩ (.slice A3 (m-k) c3)=W4 at *
    obtain ⟨g3,rfl⟩:∃ g3,A3=some ⟨g3,0,none⟩:=by
     rcases V3.2 with ⟨h,_⟩ | ⟨g,cap,cur,hv,_⟩
     ·exfalso;injection h with _ h2 _;omega
     ·injection hv with h2 _ _;exact ⟨g,h2⟩
    have hkl:k<its.length:=by rw [HL.out];exact h1
    have hc3:W4.cell? ⟨g3,0,none⟩=some (.string (Af its[k])):=by
     have:=V3.cells (g:=g3) rfl 0 (.string (Af its[k])) (by unfold strs;rw [List.getElem?_map,List.getElem?_map,List.getElem?_drop,Nat.add_zero,List.getElem?_eq_getElem hkl];rfl)
     rw [addr_add] at this;exact this
    have hlt3:=(V3.lt g3 rfl).2
    have hmk:0<m-k:=by omega
    have hKY:=Ac (fun W=>Po its[k] (HW.out _ (List.getElem_mem hkl)).1 (HW.out _ (List.getElem_mem hkl)).2 W)
    have hgd:its.getD k ⟨[],[]⟩=its[k]:=by rw [List.getD_eq_getElem?_getD,List.getElem?_eq_getElem hkl];rfl
    have RES:=Ac (show bsK (its.getD k ⟨[],[]⟩).k=bsK its[k].k by rw [hgd])
    obtain ⟨vk,hvk⟩:∃ v,Af its[k]=v:=⟨_,rfl⟩;obtain ⟨kk,hkk⟩:∃ v,bsK its[k].k=v:=⟨_,rfl⟩;rw [hvk] at hc3 hKY;rw [hkk] at hKY RES;have V2':=Ac V2;have V3':=Ac V3;have V4':=Ac V4;have UB':=Ac UB;have U1':=Ac U1;have U2':=Ac U2;clear hkl hvk hkk hgd V2 V3 V4 UB S0 S1 S2 SB HB3 HB2 O2 O3 Q0 Q1 Q2 QB P0 P1 P2 PB r00 r01 r02 r03 r20 r21 r22 r23 f2 y1 y2;obtain ⟨a0,a1,a2,a3⟩:=U1.cells4;obtain ⟨b0,b1,b2,b3⟩:=U2.cells4
    have f1:=U1.frozen;have f2:=U2.frozen;have z1:=U1.lt;have z2:=U2.lt;clear U1 U2;have hg3:=Ac (V3'.out.lt g3 rfl).1;have HC3:=Ac hc3
    have K1:=Ac (ER1 (U1'.out.Me (x:=.int .i64 n) (y:=.int .i64 1) (z:=.int .i64 l) (u:=.slice A2 k c2)).drew (U2'.out.Ij (g':=w.heap.size+1) (x:=.int .i64 n) (y:=.int .i64 1) (z:=.int .i64 l) (u:=.slice A2 k c2) (by omega)).drew (Qn (Jl (g':=w.heap.size+1) (x:=.int .i64 n) (y:=.int .i64 1) (z:=.int .i64 l) (u:=.slice A2 k c2) hc3 (by have:=hg3.out;omega))))
    have K2:=Ac (ER1 ((U1'.out.Me (x:=.int .i64 n) (y:=.int .i64 1) (z:=.int .i64 l) (u:=.slice A2 k c2)).Ij (g':=w.heap.size+1+1) (x:=.int .i64 n) (y:=.int .i64 1) (z:=.int .i64 l) (u:=.slice (some ⟨g3,0,none⟩) (m-k) c3) (by omega)).drew ((U2'.out.Ij (g':=w.heap.size+1) (x:=.int .i64 n) (y:=.int .i64 1) (z:=.int .i64 l) (u:=.slice A2 k c2) (by omega)).Me (x:=.int .i64 n) (y:=.int .i64 1) (z:=.int .i64 l) (u:=.slice (some ⟨g3,0,none⟩) (m-k) c3)).drew (Qn (Jl (g':=w.heap.size+1+1) (x:=.int .i64 n) (y:=.int .i64 1) (z:=.int .i64 l) (u:=.slice (some ⟨g3,0,none⟩) (m-k) c3) (Jl (g':=w.heap.size+1) (x:=.int .i64 n) (y:=.int .i64 1) (z:=.int .i64 l) (u:=.slice A2 k c2) hc3 (by have:=hg3.out;omega)) (by have:=hg3.out;omega))))
    go_region_held3 (fun w'=>w'.cell? ⟨w.heap.size+1,0,none⟩=some (.int .i64 n)∧w'.cell? ⟨w.heap.size+1,1,none⟩=some (.int .i64 1)∧w'.cell? ⟨w.heap.size+1,2,none⟩=some (.int .i64 l)∧w'.cell? ⟨w.heap.size+1,3,none⟩=some (.slice A2 k c2) ∧
     w'.cell? ⟨w.heap.size+1+1,0,none⟩=some (.int .i64 n)∧w'.cell? ⟨w.heap.size+1+1,1,none⟩=some (.int .i64 1)∧w'.cell? ⟨w.heap.size+1+1,2,none⟩=some (.int .i64 l)∧w'.cell? ⟨w.heap.size+1+1,3,none⟩=some (.slice (some ⟨g3,0,none⟩) (m-k) c3)∧w'.cell? ⟨g3,0,none⟩=some (.string vk)) (first | (with_reducible exact K1.out) | (with_reducible exact K2.out) | go_keep)
     ((go_at_call 51;refine (hKY.out _).mono ?_;rintro e w1 ⟨rfl,rfl⟩))
    go_wp2_with fail
    obtain ⟨q0,q1,q2,q3,q4,q5,q6,q7,q8⟩:=K2.out;rw [RES.out]
    refine bodyPost_ret (v:=.tuple #[.agg #[.int .i64 n,.int .i64 1,.int .i64 l,.slice A2 k c2],.string kk,.agg #[.int .i64 n,.int .i64 1,.int .i64 l,.slice (some ⟨g3,0,none⟩) (m-k) c3]]) (by simp [results,Tryz.results143,go_sem, *]) rfl ?_
    exact ⟨_,_,rfl,Yl (Na (Na V2'.out (fun e=>by have:=BA.out _ e;omega)) (fun e=>by have:=BA.out _ e;omega)),Yl (own_base (Na (Na V3'.out (fun e=>by have:=(V3'.out.lt _ e).1;omega)) (fun e=>by have:=(V3'.out.lt _ e).1;omega)) (by omega)),V4'.out,(Pe (Pe UB'.out (by omega)) (by omega)).drew⟩
theorem CK1 {w:World} {g1 g2 g3 g4 i i4:Nat} {t1 t2:TypeId} {a b c d e f h k v v4:Value} (h1:Has w g1 t1 #[a,b,c,d]) (h2:Has w g2 t2 #[e,f,h,k]) (h3:w.cell? ⟨g3,i,none⟩=some v) (h4:w.cell? ⟨g4,i4,none⟩=some v4):w.cell? ⟨g1,0,none⟩=some a∧w.cell? ⟨g1,1,none⟩=some b∧w.cell? ⟨g1,2,none⟩=some c∧w.cell? ⟨g1,3,none⟩=some d∧w.cell? ⟨g2,0,none⟩=some e∧w.cell? ⟨g2,1,none⟩=some f∧w.cell? ⟨g2,2,none⟩=some h∧w.cell? ⟨g2,3,none⟩=some k∧w.cell? ⟨g3,i,none⟩=some v∧w.cell? ⟨g4,i4,none⟩=some v4 :=
 ⟨h1.cell 0,h1.cell 1,h1.cell 2,h1.cell 3,h2.cell 0,h2.cell 1,h2.cell 2,h2.cell 3,h3,h4⟩
theorem FU1 (n:Nat):n≠n+1+1:=by omega
theorem AT0 {w:World} {n l m c:Nat} {A:Option Addr} {its:List It} (tv:Value) (h:SS w A m (its.map Af)) (hw:LX0 its) (hm:m≤1000) (hmc:m≤c) (hc:c≤9223372036854775807) (h0:0<cutAt (Ai its / 2) its) (h1:cutAt (Ai its / 2) its<m) (hu:Ai its≤100000) (h4:∀ i∈its,i.r.length=4) :
 Calls Tryz.prog 143 #[tv,.agg #[.int .i64 n,.int .i64 2,.int .i64 l,.slice A m c]] w fun e w'=>∃ va vb,e = .returned (.tuple #[.agg #[.int .i64 n,.int .i64 2,.int .i64 l,va],.string (bsK (its.getD (cutAt (Ai its / 2) its-1) ⟨[],[]⟩).k),.agg #[.int .i64 n,.int .i64 2,.int .i64 (Dz (its.getD (cutAt (Ai its / 2) its-1) ⟨[],[]⟩).r),vb]]) ∧
  w'.ownsRow w.heap.size 9 1 va (cutAt (Ai its / 2) its-1) (strs ((its.take (cutAt (Ai its / 2) its-1)).map Af))∧w'.ownsRow w.heap.size 9 1 vb (m-cutAt (Ai its / 2) its) (strs ((its.drop (cutAt (Ai its / 2) its)).map Af))∧(∀ g,va.ownBlock=some g→vb.ownBlock≠some g)∧Below w.heap.size w w':=by
 obtain ⟨hl,hcell⟩:=HJ0 h
 obtain ⟨b,off,rfl,hb,hcc⟩:=hcell (by omega)
 have CI:=Ac (fun i (hi:i≤its.length)=>BQ0 its (Ai its / 2) i (by omega) hi)
 have HS:=Ac h;have HC:=Ac hcc;have HL:=Ac hl
 have US:=Ac (fun W (h:SS W (some ⟨b,off,none⟩) m (its.map Af))=>Gh (some ⟨b,off,none⟩) m c (its.map Af) W h (by omega) (by rw [Ee];omega))
 rw [Ee] at US;obtain ⟨ct,hct⟩:∃ ct,cutAt (Ai its / 2) its=ct:=⟨_,rfl⟩;rw [hct] at CI h0 h1 ⊢;obtain ⟨us,hus⟩:∃ us,Ai its=us:=⟨_,rfl⟩;rw [hus] at US CI hu;have HW:=Ac hw;have H4:=Ac h4;clear h hcell hcc hl hct hus hw h4
 go_enter Tryz.func143,Tryz.ntmps143
 go_wp2_with fail
 have R0:=Has.new w 116 #[.int .i64 n,.int .i64 2,.int .i64 l,.slice (some ⟨b,off,none⟩) m c];have B0:=Ag w (.cells #[.int .i64 n,.int .i64 2,.int .i64 l,.slice (some ⟨b,off,none⟩) m c] 116)
 have z0:(w.alloc (.cells #[.int .i64 n,.int .i64 2,.int .i64 l,.slice (some ⟨b,off,none⟩) m c] 116)).heap.size=w.heap.size+1:=by simp
 generalize w.alloc (.cells #[.int .i64 n,.int .i64 2,.int .i64 l,.slice (some ⟨b,off,none⟩) m c] 116)=W0 at *
 have R1:=Has.new W0 116 #[.int .i64 0,.int .i64 0,.int .i64 0,.slice none 0 0];have B1:=Ag W0 (.cells #[.int .i64 0,.int .i64 0,.int .i64 0,.slice none 0 0] 116)
 have z1:(W0.alloc (.cells #[.int .i64 0,.int .i64 0,.int .i64 0,.slice none 0 0] 116)).heap.size=w.heap.size+1+1:=by simp [z0]
 replace R0:=R0.Aj B1
 replace B1:=Am B0 B1 B0.size
 rw [z0] at R1
 generalize W0.alloc (.cells #[.int .i64 0,.int .i64 0,.int .i64 0,.slice none 0 0] 116)=W1 at *
 have R2:=Has.new W1 116 #[.int .i64 0,.int .i64 0,.int .i64 0,.slice none 0 0];have B2:=Ag W1 (.cells #[.int .i64 0,.int .i64 0,.int .i64 0,.slice none 0 0] 116)
 have z2:(W1.alloc (.cells #[.int .i64 0,.int .i64 0,.int .i64 0,.slice none 0 0] 116)).heap.size=w.heap.size+1+1+1:=by simp [z1]
 replace R0:=R0.Aj B2
 replace R1:=R1.Aj B2
 replace B2:=Am B1 B2 B1.size
 rw [z1] at R2
 generalize W1.alloc (.cells #[.int .i64 0,.int .i64 0,.int .i64 0,.slice none 0 0] 116)=W at *
 clear B0 B1 z0 z1 W1 W0
 refine (US.out W (HS.out.keep B2)).mono ?_
 rintro en w' ⟨rfl,rfl⟩;obtain ⟨r00,r01,r02,r03⟩:=R0.cells4;have BW:=Ac B2
 have CW:=Ac (fun i (hi:i<its.length)=>((Vf B2).1 b (off+i) hb).trans (HC.out i hi))
 have HR0:=Ac R0;have HR1:=Ac R1;have HR2:=Ac R2;have ZW:=Ac z2;clear B2 R0 R1 R2 HC z2
 go_wp2_with fail
 go_loop [8,9] (fun i u=>∃ k q:Nat,k≤ct∧i = .int .i64 k∧u = .int .i64 q∧Hid (q=Ai (its.take k))) (fun i _=>ct-(intOf i).toNat)
 case atStart=>exact ⟨0,0,Nat.zero_le _,rfl,rfl,Ac rfl⟩
 case round =>
  obtain ⟨k,q,hk,rfl,rfl,hq⟩:=hrel
  have hci:=CI.out k (by rw [HL.out];omega)
  rw [← hq.out] at hci
  by_cases hlt:k<ct
  ·have hki:k<its.length:=by rw [HL.out];omega
   have hcell:=CW.out k hki;have hqs:=hci.2 hlt
   have hsz:Hid (Ai (its.take (k+1))=q+(4+(Af its[k]).size)):=Ac (by
    rw [List.take_succ_eq_append_getElem hki,Dw,← hq.out,Df,Gi,← BN0];omega)
   have hcz:(Af its[k]).size≤5400:=by
    have:=HW.out its[k] (List.getElem_mem _);rw [Ef];omega
   have hkm:k<m:=by omega
   obtain ⟨v,hv⟩:∃ v,Af its[k]=v:=⟨_,rfl⟩;rw [hv] at hcell hsz hcz;clear hv hki hci
   go_wp2_with fail
   go_round
   case rel=>exact ⟨k+1,q+(4+v.size),by omega,by go_num,by go_num,Ac hsz.out.symm⟩
   case measure=>simp [intOf];omega
  ·obtain rfl:k=ct:=by omega
   have hqs:¬ (q:Int)<(us:Int) / 2:=by
    have:=mt hci.1 hlt;omega
   clear hci hlt
   go_upto_region 6 with fail
   go_cut [30,31] (fun _ _ wx=>Has wx (w.heap.size+1) 116 #[.int .i64 n,.int .i64 2,.int .i64 l,.slice (some ⟨b,off,none⟩) m c]∧Has wx (w.heap.size+1+1) 116 #[.int .i64 n,.int .i64 2,.int .i64 l,.slice (some ⟨b,off,none⟩) m c]∧Has wx w.heap.size 116 #[.int .i64 n,.int .i64 2,.int .i64 l,.slice (some ⟨b,off,none⟩) m c]∧Below w.heap.size w wx)
   case first =>
    obtain ⟨s10,s11,s12,s13⟩:=HR1.out.cells4;obtain ⟨s20,s21,s22,s23⟩:=HR2.out.cells4;have f1:=HR1.out.frozen;have f2:=HR2.out.frozen;have y1:=HR1.out.lt;have y2:=HR2.out.lt;clear r00 r01 r02 r03;obtain ⟨r00,r01,r02,r03⟩:=HR0.out.cells4
    go_region
    go_wp2_with fail
    go_meet
    exact ⟨(HR1.out.Me.Ij (by omega)).drew,((HR2.out.Ij (by omega)).Me).drew,((HR0.out.Ij (by omega)).Ij (by omega)).drew,(Pe (Pe BW.out (by omega)) (by omega)).drew⟩
   case rest =>
    obtain ⟨T1,T2,T0,TB⟩:=hcut
    obtain ⟨j,rfl⟩:∃ j,k=j+1:=⟨k-1,by omega⟩
    have hjl:j<its.length:=by rw [HL.out];omega
    have LF:=Ac (fun W=>Jv n l (.slice (some ⟨b,off,none⟩) m c) W)
    have CL1:=Ac (fun W (h:SS W (some ⟨b,off,none⟩) j ((its.take j).map Af))=>Gn (A:=some ⟨b,off,none⟩) (c:=c) h (by omega))
    have CL2:=Ac (fun W (h:SS W (some ⟨b,off+(j+1),none⟩) (m-(j+1)) ((its.drop (j+1)).map Af))=>Gn (A:=some ⟨b,off+(j+1),none⟩) (c:=c-(j+1)) h (by omega))
    have SSK:=Ac (fun W (hb2:Below w.heap.size w W)=>(show SS W (some ⟨b,off,none⟩) j ((its.take j).map Af) from by
     have hs:=HS.out.keep hb2
     refine ⟨by simp [HL.out];omega,fun hn=>?_⟩
     obtain ⟨b',off',e1,e2,e3⟩:=hs.2 (by omega)
     refine ⟨b',off',e1,e2,fun i v hv=>e3 i v ?_⟩
     rw [List.map_take] at hv
     have hik:i<j:=by have:=(List.getElem?_eq_some_iff.1 hv).1;simp at this;omega
     rw [List.getElem?_take,if_pos hik] at hv;exact hv))
    have SSD:=Ac (fun W (hb2:Below w.heap.size w W)=>(show SS W (some ⟨b,off+(j+1),none⟩) (m-(j+1)) ((its.drop (j+1)).map Af) from by
     have hs:=HS.out.keep hb2
     refine ⟨by simp [HL.out],fun hn=>?_⟩
     obtain ⟨b',off',e1,e2,e3⟩:=hs.2 (by omega)
     cases e1
     refine ⟨b,off+(j+1),rfl,e2,fun i v hv=>?_⟩
     rw [List.map_drop,List.getElem?_drop] at hv;rw [Nat.add_assoc]
     exact e3 (j+1+i) v hv))
    have CJ:=Ac (fun W (hb2:Below w.heap.size w W)=>(show W.cell? ⟨b,off+j,none⟩=some (.string (Af its[j])) from by
     obtain ⟨b',off',e1,e2,e3⟩:=(HS.out.keep hb2).2 (by omega)
     cases e1
     exact e3 j _ (by simp [hjl])))
    have hgd:its.getD j ⟨[],[]⟩=its[j]:=by rw [List.getD_eq_getElem?_getD,List.getElem?_eq_getElem hjl];rfl
    have RES:=Ac (show bsK (its.getD j ⟨[],[]⟩).k=bsK its[j].k∧Dz (its.getD j ⟨[],[]⟩).r=Dz its[j].r by rw [hgd];exact ⟨rfl,rfl⟩)
    have KY:=Ac (fun W=>Po its[j] (HW.out _ (List.getElem_mem hjl)).1 (HW.out _ (List.getElem_mem hjl)).2 W)
    have RS:=Ac (fun W=>Xu its[j] (HW.out _ (List.getElem_mem hjl)).1 (HW.out _ (List.getElem_mem hjl)).2 W)
    have NU:=Ac (fun W=>Vs its[j].r (H4.out _ (List.getElem_mem hjl)) W)
    obtain ⟨vk,hvk⟩:∃ v,Af its[j]=v:=⟨_,rfl⟩;obtain ⟨kk,hkk⟩:∃ v,bsK its[j].k=v:=⟨_,rfl⟩;obtain ⟨rr,hrr⟩:∃ v,bsK its[j].r=v:=⟨_,rfl⟩;obtain ⟨NN,hnn⟩:∃ v,Dz its[j].r=v:=⟨_,rfl⟩;rw [hvk] at CJ KY RS;rw [hkk] at KY;rw [hrr] at RS NU;rw [hnn] at NU;rw [hkk,hnn] at RES;have HT1:=Ac T1;have HT2:=Ac T2;have HT0:=Ac T0;have HTB:=Ac TB;have y1:=T1.lt;have y2:=T2.lt;clear r00 r01 r02 r03 HR0 HR1 HR2 BW CW hgd hvk hkk hrr hnn hjl
    obtain ⟨r00,r01,r02,r03⟩:=T0.cells4;clear T0 T1 T2 TB
    have i1:j≤c:=by omega
    have i2:j+1<c:=by omega
    have i3:(j:Int)<(m:Int):=by omega
    have i4:j<m:=by omega
    have i5:j+1≤m:=by omega
    go_wp2_with (first
     | (go_at_call 130;refine (LF.out _).mono ?_;rintro en w1 ⟨rfl,hb1⟩;have P1:=Ac (HT1.out.Aj hb1);have P2:=Ac (HT2.out.Aj hb1);have P0:=Ac (HT0.out.Aj hb1);have PB:=Ac (Am HTB.out hb1 HTB.out.size);clear r00 r01 r02 r03 hb1 y1 y2;obtain ⟨r00,r01,r02,r03⟩:=P0.out.cells4;have y1:=P1.out.lt;have y2:=P2.out.lt)
     | (go_at_call 198;(with_reducible refine (CL1.out _ (SSK.out _ PB.out)).mono ?_);rintro en w2 ⟨va,rfl,ho2,hb2⟩;obtain ⟨A2,c2,rfl,_⟩:=Bd ho2;have O2:=Ac ho2;have Q1:=Ac (P1.out.Aj hb2);have Q2:=Ac (P2.out.Aj hb2);have Q0:=Ac (P0.out.Aj hb2);have QB:=Ac (Am PB.out hb2 PB.out.size);have HB2:=Ac hb2;have cj:=CJ.out _ (QB.out.setCell (p:=⟨w.heap.size+1,3,none⟩) (Nat.le_succ _) (.slice A2 j c2));clear r00 r01 r02 r03 hb2 ho2 y1 y2;obtain ⟨r00,r01,r02,r03⟩:=Q0.out.cells4;obtain ⟨r10,r11,r12,r13⟩:=Q1.out.cells4;have y1:=Q1.out.lt;have y2:=Q2.out.lt;have f1:=Q1.out.frozen)
     | (go_at_call 136;refine (RS.out _).mono ?_;rintro e w1 ⟨rfl,rfl⟩)
     | (go_at_call 137;refine (NU.out _).mono ?_;rintro en w4 ⟨rfl,hb4⟩;have N1:=Ac ((Q1.out.set 3 (.slice A2 j c2)).Aj hb4);have N2:=Ac ((Q2.out.far (p:=⟨w.heap.size+1,3,none⟩) (by simp) (.slice A2 j c2)).Aj hb4);have N0:=Ac ((Q0.out.far (p:=⟨w.heap.size+1,3,none⟩) (by simp) (.slice A2 j c2)).Aj hb4);have NB:=Ac (Am (QB.out.setCell (p:=⟨w.heap.size+1,3,none⟩) (Nat.le_succ _) (.slice A2 j c2)) hb4 (by simpa using QB.out.size));have HB4:=Ac hb4;clear cj r00 r01 r02 r03 r10 r11 r12 r13 hb4 y1 y2 f1;obtain ⟨r00,r01,r02,r03⟩:=N0.out.cells4;obtain ⟨r20,r21,r22,r23⟩:=N2.out.cells4;have y1:=N1.out.lt;have y2:=N2.out.lt;have f2:=N2.out.frozen)
     | (go_at_call 198;(with_reducible refine (CL2.out _ (SSD.out _ (NB.out.setCell (p:=⟨w.heap.size+1+1,2,none⟩) (Nat.le_succ_of_le (Nat.le_succ _)) (.int .i64 NN)))).mono ?_);rintro en w3 ⟨vb,rfl,ho3,hb3⟩;obtain ⟨A3,c3,rfl,_⟩:=Bd ho3;have O3:=Ac ho3;have S1:=Ac ((N1.out.far (p:=⟨w.heap.size+1+1,2,none⟩) (by simp) (.int .i64 NN)).Aj hb3);have S2:=Ac ((N2.out.set 2 (.int .i64 NN)).Aj hb3);have S0:=Ac ((N0.out.far (p:=⟨w.heap.size+1+1,2,none⟩) (FU1 _) (.int .i64 NN)).Aj hb3);have SB:=Ac (Am (NB.out.setCell (p:=⟨w.heap.size+1+1,2,none⟩) (Nat.le_succ_of_le (Nat.le_succ _)) (.int .i64 NN)) hb3 (by simpa using NB.out.size));have HB3:=Ac hb3;clear r00 r01 r02 r03 r20 r21 r22 r23 f2 hb3 ho3 y1 y2;obtain ⟨r00,r01,r02,r03⟩:=S0.out.cells4;obtain ⟨r20,r21,r22,r23⟩:=S2.out.cells4;have y1:=S1.out.lt;have y2:=S2.out.lt;have f2:=S2.out.frozen))
    have U1:Has (w3.setCell ⟨w.heap.size+1+1,3,none⟩ (.slice A3 (m-(j+1)) c3)) (w.heap.size+1) 116 #[.int .i64 n,.int .i64 2,.int .i64 l,.slice A2 j c2]:=S1.out.far (p:=⟨w.heap.size+1+1,3,none⟩) (by simp) (.slice A3 (m-(j+1)) c3)
    have U2:Has (w3.setCell ⟨w.heap.size+1+1,3,none⟩ (.slice A3 (m-(j+1)) c3)) (w.heap.size+1+1) 116 #[.int .i64 n,.int .i64 2,.int .i64 NN,.slice A3 (m-(j+1)) c3]:=S2.out.set 3 (.slice A3 (m-(j+1)) c3);have U0:Has (w3.setCell ⟨w.heap.size+1+1,3,none⟩ (.slice A3 (m-(j+1)) c3)) w.heap.size 116 #[.int .i64 n,.int .i64 2,.int .i64 l,.slice (some ⟨b,off,none⟩) m c]:=S0.out.far (p:=⟨w.heap.size+1+1,3,none⟩) (FU1 _) (.slice A3 (m-(j+1)) c3)
    have UB:=SB.out.setCell (p:=⟨w.heap.size+1+1,3,none⟩) (by show w.heap.size≤w.heap.size+1+1;omega) (.slice A3 (m-(j+1)) c3)
    have hc3:=CJ.out _ UB;have P2l:w.heap.size+1+1<w1.heap.size:=P2.out.lt
    have BA:=Ac (fun g (hg:(Value.slice A2 j c2).ownBlock=some g)=>(show w.heap.size+1+1<g from by
     have h1:=(O2.out.lt g hg).1
     omega))
    have V2:(w3.setCell ⟨w.heap.size+1+1,3,none⟩ (.slice A3 (m-(j+1)) c3)).ownsRow w.heap.size 9 1 (.slice A2 j c2) j (strs ((its.take j).map Af)):=own_base (b:=w.heap.size) (Bf O2.out (fun g hg=>by
     have h1:=BA.out g hg;have h2:=(O2.out.lt g hg).2
     have q1:=Below.heap_setCell w3 ⟨w.heap.size+1+1,3,none⟩ (.slice A3 (m-(j+1)) c3) g (by show g≠w.heap.size+1+1;omega)
     have hz4:=HB4.out.size
     have q2:=HB3.out.block g (by simp at hz4;simp;omega)
     have q3:=Below.heap_setCell w4 ⟨w.heap.size+1+1,2,none⟩ (.int .i64 NN) g (by show g≠w.heap.size+1+1;omega)
     have q4:=HB4.out.block g (by simp;omega)
     have q5:=Below.heap_setCell w2 ⟨w.heap.size+1,3,none⟩ (.slice A2 j c2) g (by show g≠w.heap.size+1;omega)
     exact q1.trans (q2.trans (q3.trans (q4.trans q5))))) (by have:=PB.out.size;omega)
    have V3:(w3.setCell ⟨w.heap.size+1+1,3,none⟩ (.slice A3 (m-(j+1)) c3)).ownsRow (w.heap.size+1+1+1) 9 1 (.slice A3 (m-(j+1)) c3) (m-(j+1)) (strs ((its.drop (j+1)).map Af)):=by
     have hz4:=HB4.out.size;have hz2:=HB2.out.size;simp at hz4
     refine own_base (b:=w.heap.size+1+1+1) (Bf O3.out (fun g hg=>?_)) (by simp;omega)
     have h1:=(O3.out.lt g hg).1
     exact Below.heap_setCell w3 ⟨w.heap.size+1+1,3,none⟩ (.slice A3 (m-(j+1)) c3) g (by show g≠w.heap.size+1+1;simp at h1;omega)
    have V4:∀ g,(Value.slice A2 j c2).ownBlock=some g→(Value.slice A3 (m-(j+1)) c3).ownBlock≠some g:=fun g hg e=>by
     have hz4:=HB4.out.size;simp at hz4;have h1:=(O2.out.lt g hg).2;have h2:=(O3.out.lt g e).1;simp at h2;omega
    generalize w3.setCell ⟨w.heap.size+1+1,3,none⟩ (.slice A3 (m-(j+1)) c3)=W4 at *
    have V2':=Ac V2;have V3':=Ac V3;have V4':=Ac V4;have UB':=Ac UB;have U1':=Ac U1;have U2':=Ac U2;have U0':=Ac U0;have c03:W4.cell? ⟨w.heap.size,3,none⟩=some (.slice (some ⟨b,off,none⟩) m c):=U0.cell 3;clear V2 V3 V4 UB S0 S1 S2 SB HB3 HB4 HB2 O2 O3 Q0 Q1 Q2 QB N0 N1 N2 NB P0 P1 P2 PB r00 r01 r02 r03 r20 r21 r22 r23 f2 y1 y2 P2l;obtain ⟨a0,a1,a2,a3⟩:=U1.cells4;obtain ⟨b0,b1,b2,b3⟩:=U2.cells4;have f1:=U1.frozen
    have f2:=U2.frozen;have z1:=U1.lt;have z2:=U2.lt;clear U1 U2 U0
    have K1:=Ac (CK1 (U1'.out.Me (x:=.int .i64 n) (y:=.int .i64 2) (z:=.int .i64 l) (u:=.slice A2 j c2)).drew (U2'.out.Ij (g':=w.heap.size+1) (x:=.int .i64 n) (y:=.int .i64 2) (z:=.int .i64 l) (u:=.slice A2 j c2) (by omega)).drew (Qn (Jl (g':=w.heap.size+1) (x:=.int .i64 n) (y:=.int .i64 2) (z:=.int .i64 l) (u:=.slice A2 j c2) c03 (by omega))) (Qn (Jl (g':=w.heap.size+1) (x:=.int .i64 n) (y:=.int .i64 2) (z:=.int .i64 l) (u:=.slice A2 j c2) hc3 (by omega))))
    have K2:=Ac (CK1 ((U1'.out.Me (x:=.int .i64 n) (y:=.int .i64 2) (z:=.int .i64 l) (u:=.slice A2 j c2)).Ij (g':=w.heap.size+1+1) (x:=.int .i64 n) (y:=.int .i64 2) (z:=.int .i64 NN) (u:=.slice A3 (m-(j+1)) c3) (by omega)).drew ((U2'.out.Ij (g':=w.heap.size+1) (x:=.int .i64 n) (y:=.int .i64 2) (z:=.int .i64 l) (u:=.slice A2 j c2) (by omega)).Me (x:=.int .i64 n) (y:=.int .i64 2) (z:=.int .i64 NN) (u:=.slice A3 (m-(j+1)) c3)).drew (Qn (Jl (g':=w.heap.size+1+1) (x:=.int .i64 n) (y:=.int .i64 2) (z:=.int .i64 NN) (u:=.slice A3 (m-(j+1)) c3) (Jl (g':=w.heap.size+1) (x:=.int .i64 n) (y:=.int .i64 2) (z:=.int .i64 l) (u:=.slice A2 j c2) c03 (by omega)) (by omega))) (Qn (Jl (g':=w.heap.size+1+1) (x:=.int .i64 n) (y:=.int .i64 2) (z:=.int .i64 NN) (u:=.slice A3 (m-(j+1)) c3) (Jl (g':=w.heap.size+1) (x:=.int .i64 n) (y:=.int .i64 2) (z:=.int .i64 l) (u:=.slice A2 j c2) hc3 (by omega)) (by omega))))
    go_region_held3 (fun w'=>w'.cell? ⟨w.heap.size+1,0,none⟩=some (.int .i64 n)∧w'.cell? ⟨w.heap.size+1,1,none⟩=some (.int .i64 2)∧w'.cell? ⟨w.heap.size+1,2,none⟩=some (.int .i64 l)∧w'.cell? ⟨w.heap.size+1,3,none⟩=some (.slice A2 j c2) ∧
     w'.cell? ⟨w.heap.size+1+1,0,none⟩=some (.int .i64 n)∧w'.cell? ⟨w.heap.size+1+1,1,none⟩=some (.int .i64 2)∧w'.cell? ⟨w.heap.size+1+1,2,none⟩=some (.int .i64 NN)∧w'.cell? ⟨w.heap.size+1+1,3,none⟩=some (.slice A3 (m-(j+1)) c3)∧w'.cell? ⟨w.heap.size,3,none⟩=some (.slice (some ⟨b,off,none⟩) m c)∧w'.cell? ⟨b,off+j,none⟩=some (.string vk)) (first | (with_reducible exact K1.out) | (with_reducible exact K2.out) | go_keep)
     ((go_at_call 51;refine (KY.out _).mono ?_;rintro e w1 ⟨rfl,rfl⟩))
    go_wp2_with fail
    obtain ⟨q0,q1,q2,q3,q4,q5,q6,q7,q8⟩:=K2.out
    have e1:j+1-1=j:=by omega
    rw [e1,RES.out.1,RES.out.2]
    refine bodyPost_ret (v:=.tuple #[.agg #[.int .i64 n,.int .i64 2,.int .i64 l,.slice A2 j c2],.string kk,.agg #[.int .i64 n,.int .i64 2,.int .i64 NN,.slice A3 (m-(j+1)) c3]]) (by simp [results,Tryz.results143,go_sem, *]) rfl ?_
    exact ⟨_,_,rfl,Yl (Na (Na V2'.out (fun e=>by have:=BA.out _ e;omega)) (fun e=>by have:=BA.out _ e;omega)),Yl (own_base (Na (Na V3'.out (fun e=>by have:=(V3'.out.lt _ e).1;omega)) (fun e=>by have:=(V3'.out.lt _ e).1;omega)) (by omega)),V4'.out,(Pe (Pe UB'.out (by omega)) (by omega)).drew⟩
theorem Nq {w:World} {X:List (Option Nat)} {tb p root c k:Nat} {S S0:St} (h:PT w X p S S0 c k) (ht:TM w X tb p root) (hc:c+1≤60000) (hk:k≤900000000) (hq:S.q≤60000) :
 Calls Tryz.prog 144 #[.pointer (some ⟨tb,0,none⟩)] w (Hw X w p S.alloc S0 (c+2) (k+4) (.int .i64 S.Ah)):=by
 have AL:=Ac (BL0 h hc hk hq);have t0:=ht.has.cells2.1;have tz:=ht.has.lt;clear h ht hc hk hq
 go_enter Tryz.func144,Tryz.ntmps144
 go_wp2_with (first
  | (go_at_call 45;refine AL.out.mono ?_;rintro en w1 ⟨rfl,X1,hp1,ht1⟩;have HP1:=Ac hp1;have HT1:=Ac ht1;clear hp1 ht1)
  | (go_at_call 129;refine (Et _).mono ?_;rintro e w1 ⟨rfl,rfl⟩))
 go_ret
 exact ⟨rfl,X1,HP1.out,HT1.out⟩
theorem Zp {w:World} {X:List (Option Nat)} {p c k:Nat} {S S0:St} (h:PT w X p S S0 c k):PT w.drew X p S S0 c k:=h.below ((Below.refl _ _).drew)
theorem Vl {w:World} {X:List (Option Nat)} {tb p root c k n l m cp kd:Nat} {S S0:St} {A:Option Addr} {cs:List It} (h:PT w X p S S0 c k) (ht:TM w X tb p root) (hc:c≤60000) (hk:k≤900000000) (h0:0<n) (hn:n<S.q) (hf:n∉S.fr) (hkd:kd=1∨(kd=2∧0<m)) (hl:l≤2147483647) (hs:SS w A m (cs.map Af)) (hm:m≤1000) (hu:Ai cs≤1012) :
 Calls Tryz.prog 142 #[.pointer (some ⟨tb,0,none⟩),.agg #[.int .i64 n,.int .i64 kd,.int .i64 l,.slice A m cp]] w (Hw X w p (S.set n (kd,l,cs.map Af)) S0 (c+1) (k+1) (.tuple #[])):=by
 have hpg:Qq (kd,l,cs.map Af):=⟨by show 1≤kd;omega,by show kd≤5;omega,hl,by show Be (cs.map Af)≤1012;rw [Ee];exact hu⟩
 have HP:=Ac h;have HT:=Ac ht
 have SV:=Ac (fun W (h:PT W X p S S0 c k) (ht:TM W X tb p root) (hs:SS W A m (cs.map Af))=>Dp (cp:=cp) (pg:=(kd,l,cs.map Af)) h ht hc hk h0 hn hf hpg hs (by omega))
 have US:=Ac (fun W (h:SS W A m (cs.map Af))=>Gh A m cp (cs.map Af) W h (by omega) (by rw [Ee];omega))
 rw [Ee] at US;have B0:=Ac (Ag w (.cells #[.int .i64 n,.int .i64 kd,.int .i64 l,.slice A m cp] 116));have HSS:=Ac hs;have R0:=Ac (Has.new w 116 #[.int .i64 n,.int .i64 kd,.int .i64 l,.slice A m cp])
 have LF:=Ac (fun W=>CO0 n kd l (.slice A m cp) W)
 obtain ⟨us,hus⟩:∃ us,Ai cs=us:=⟨_,rfl⟩;rw [hus] at US hu
 have u1:¬ (1012:Int)<(us:Int):=by omega
 clear h ht hc hk h0 hn hf hl hs hpg hus hm
 rcases hkd with rfl | ⟨rfl,hm0⟩
 ·have LF2:=Ac (fun W=>Ko n l (.slice A m cp) W)
  clear LF
  go_enter Tryz.func142,Tryz.ntmps142
  go_wp2_with (first
   | (go_at_call 141;refine (US.out _ (HSS.out.keep B0.out)).mono ?_;rintro e w1 ⟨rfl,rfl⟩)
   | (go_at_call 130;refine (LF2.out _).mono ?_;rintro en w1 ⟨rfl,hb1⟩;have HB1:=Ac hb1;have R1:=Ac (R0.out.Aj hb1);obtain ⟨x0,x1,x2,x3⟩:=R1.out.cells4;have xz:=R1.out.lt;clear hb1)
   | (go_at_call 46;refine (SV.out _ ((HP.out.below B0.out).below HB1.out) ((HT.out.below B0.out).below HB1.out) ((HSS.out.keep B0.out).keep (HB1.out.mono (by simp)))).mono ?_;rintro en w2 ⟨rfl,X2,hp2,ht2⟩;have HP2:=Ac hp2;have HT2:=Ac ht2;clear hp2 ht2))
  go_end0
  exact ⟨rfl,X2,HP2.out,((Turn.below X B0.out).next HB1.out).trans HT2.out⟩
 ·have LF2:=Ac (fun W=>Jv n l (.slice A m cp) W)
  have e0:((m:Int) == 0)=false:=by rw [beq_eq_false_iff_ne];omega
  clear LF
  go_enter Tryz.func142,Tryz.ntmps142
  go_wp2_with (first
   | (go_at_call 141;refine (US.out _ (HSS.out.keep B0.out)).mono ?_;rintro e w1 ⟨rfl,rfl⟩)
   | (go_at_call 130;refine (LF2.out _).mono ?_;rintro en w1 ⟨rfl,hb1⟩;have HB1:=Ac hb1;have R1:=Ac (R0.out.Aj hb1);obtain ⟨x0,x1,x2,x3⟩:=R1.out.cells4;have xz:=R1.out.lt;clear hb1)
   | (go_at_call 46;refine (SV.out _ ((HP.out.below B0.out).below HB1.out) ((HT.out.below B0.out).below HB1.out) ((HSS.out.keep B0.out).keep (HB1.out.mono (by simp)))).mono ?_;rintro en w2 ⟨rfl,X2,hp2,ht2⟩;have HP2:=Ac hp2;have HT2:=Ac ht2;clear hp2 ht2))
  go_end0
  exact ⟨rfl,X2,HP2.out,((Turn.below X B0.out).next HB1.out).trans HT2.out⟩
theorem ER0 {w:World} {X:List (Option Nat)} {tb p root c k n l cp:Nat} {S S0:St} {A:Option Addr} (h:PT w X p S S0 c k) (ht:TM w X tb p root) (hc:c+3≤60000) (hk:k≤800000000) (h0:0<n) (hn:n<S.q) (hf:n∉S.fr) (hl0:0<l) (hl:l<S.q) (hlf:l∉S.fr) (hnl:n≠l) (hpg:Qq (S.G l)) (h12:(S.G l).1=1∨(S.G l).1=2) :
 Calls Tryz.prog 142 #[.pointer (some ⟨tb,0,none⟩),.agg #[.int .i64 n,.int .i64 2,.int .i64 l,.slice A 0 cp]] w (Hw X w p ((S.free l).set n (S.G l)) S0 (c+3) (k+5) (.tuple #[])):=by
 have HP:=Ac h;have HT:=Ac ht
 have LY:=Ac (fun W (h:PT W X p S S0 c k) (ht:TM W X tb p root)=>Gg (n:=l) h ht (by omega) (by omega) hl hpg h12)
 have FR:=Ac (fun W X (h:PT W X p S S0 c (k+1))=>Zi (x:=l) h (by omega) (by omega) hl0 hl hlf)
 have SV:=Ac (fun W X A cp (h:PT W X p (S.free l) S0 (c+2) (k+4)) (ht:TM W X tb p root) (hs:SS W A (S.G l).2.2.length (S.G l).2.2)=>Dp (n:=n) (cp:=cp) (pg:=S.G l) h ht (by omega) (by omega) h0 hn (by
  show n∉l :: S.fr
  rw [List.mem_cons];rintro (e | e)
  ·exact hnl e
  ·exact hf e) hpg hs (by have:=Oy hpg;omega))
 have US:=Ac (fun W=>Gh A 0 cp [] W ⟨rfl,fun h=>absurd h (by omega)⟩ (by omega) (by decide))
 have LF:=Ac (fun W=>Jv n l (.slice A 0 cp) W)
 obtain ⟨pg,hpg2⟩:∃ pg,S.G l=pg:=⟨_,rfl⟩;rw [hpg2] at LY SV ⊢
 have hu0:((Be ([]:List ByteArray):Nat):Int)=0:=by decide
 have B0:=Ac (Ag w (.cells #[.int .i64 n,.int .i64 2,.int .i64 l,.slice A 0 cp] 116));have R0:=Ac (Has.new w 116 #[.int .i64 n,.int .i64 2,.int .i64 l,.slice A 0 cp]);have ltx:=Ac h.lt;rw [hu0] at US;clear h ht hc hk h0 hn hf hl0 hl hlf hnl hpg h12 hpg2 hu0
 have NR:Hid (some w.heap.size∉X):=Ac (fun hm=>by have:=ltx.out _ hm;omega)
 go_enter Tryz.func142,Tryz.ntmps142
 go_wp2_with (first
  | (go_at_call 141;refine (US.out _).mono ?_;rintro e w1 ⟨rfl,rfl⟩)
  | (go_at_call 130;refine (LF.out _).mono ?_;rintro en w1 ⟨rfl,hb1⟩;have HB1:=Ac hb1;have R1:=Ac (R0.out.Aj hb1);obtain ⟨x0,x1,x2,x3⟩:=R1.out.cells4;have xz:=R1.out.lt;clear hb1)
  | (go_at_call 62;refine (LY.out _ ((HP.out.below B0.out).below HB1.out) ((HT.out.below B0.out).below HB1.out)).mono ?_;rintro en w2 ⟨A2,c2,X2,rfl,hp2,ht2,ho2,hq2⟩;have P2:=Ac hp2;have T2:=Ac ht2;have O2:=Ac ho2;have Q2:=Ac hq2;have R2:=Ac (ht2.has R1.out NR.out);have M2:=Ac (((HT.out.below B0.out).below HB1.out).turn ht2);clear hp2 ht2 ho2 hq2 x0 x1 x2 x3 xz;obtain ⟨x0,x1,x2,x3⟩:=R2.out.cells4;have xz:=R2.out.lt))
 have Y2:=Has.new w2 116 #[.int .i64 l,.int .i64 pg.1,.int .i64 pg.2.1,.slice A2 pg.2.2.length c2];have YB:=Ag w2 (.cells #[.int .i64 l,.int .i64 pg.1,.int .i64 pg.2.1,.slice A2 pg.2.2.length c2] 116);have P3:=Ac (P2.out.below YB);have M3:=Ac (M2.out.below YB);have R3:=Ac (R2.out.Aj YB);have O3:=Ac (own_below O2.out YB);have Y3:=Ac Y2;have TU:=Ac ((((Turn.below X B0.out).next HB1.out).trans T2.out).next YB)
 have YX:Hid (some w2.heap.size∉X2):=Ac (fun hm=>by have:=P2.out.lt _ hm;omega)
 have NR2:Hid (some w.heap.size∉X2):=Ac (T2.out.out NR.out R1.out.lt);have zw2:w.heap.size<w2.heap.size:=R2.out.lt;have t3:=M3.out.has.cell 0;have y3:=Y2.cell 0
 generalize w2.alloc (.cells #[.int .i64 l,.int .i64 pg.1,.int .i64 pg.2.1,.slice A2 pg.2.2.length c2] 116)=W3 at *
 generalize hyb:w2.heap.size=yb at *
 clear hyb Y2 YB x0 x1 x2 x3 xz
 go_region_held3 (fun w'=>w'.cell? ⟨tb,0,none⟩=some (.pointer (some ⟨p,0,none⟩))∧w'.cell? ⟨yb,0,none⟩=some (.int .i64 l)) (first | exact (⟨M4.out.has.cell 0,Y4.out.cell 0⟩) | go_keep)
  (first
    | (go_at_call 80;refine (FR.out _ _ (Zp P3.out)).mono ?_;rintro en w4 ⟨rfl,X4,hp4,ht4⟩;have P4:=Ac hp4;have T4:=Ac ht4;have M4:=Ac ((M3.out.below ((Below.refl _ _).drew)).turn ht4);have R4:=Ac (ht4.has R3.out.drew NR2.out);have Y4:=Ac (ht4.has Y3.out.drew YX.out);have NR4:=Ac (ht4.out NR2.out R3.out.drew.lt);have OX:=Ac (Bf (w':=w4) (Yl O3.out) (fun g hg=>ht4.block g (O3.out.lt g hg).2 (Q2.out g hg)));clear hp4 ht4)
    | (go_at_call 129;refine (Et _).mono ?_;rintro e w1 ⟨rfl,rfl⟩))
 obtain ⟨y0,y1,y2,y3⟩:=Y4.out.cells4;obtain ⟨x0,x1,x2,x3⟩:=R4.out.cells4;have xf:=R4.out.frozen;have xz:=R4.out.lt;have yz:=Y4.out.lt;have zw:=R0.out.lt
 have tbz:tb≠w.heap.size:=by have:=HT.out.has.lt;omega
 go_wp2_with (go_at_call 46;refine (SV.out _ X4 A2 c2 (((P4.out.set NR4.out 1 (.int .i64 pg.1)).set NR4.out 2 (.int .i64 pg.2.1)).set NR4.out 3 (.slice A2 pg.2.2.length c2)) (((M4.out.set tbz 1 (.int .i64 pg.1)).set tbz 2 (.int .i64 pg.2.1)).set tbz 3 (.slice A2 pg.2.2.length c2)) (SS.Dv (ownsRow_setCell_below (ownsRow_setCell_below (ownsRow_setCell_below OX.out (a:=⟨w.heap.size,1,none⟩) R1.out.lt (.int .i64 pg.1)) (a:=⟨w.heap.size,2,none⟩) R1.out.lt (.int .i64 pg.2.1)) (a:=⟨w.heap.size,3,none⟩) R1.out.lt (.slice A2 pg.2.2.length c2)))).mono ?_;rintro en w6 ⟨rfl,X6,hp6,ht6⟩;have P6:=Ac hp6;have T6:=Ac ht6;clear hp6 ht6)
 go_end0
 exact ⟨rfl,X6,P6.out,(((((TU.out.next ((Below.refl _ _).drew)).trans T4.out).Di (Nat.le_refl _) 1 (.int .i64 pg.1)).Di (Nat.le_refl _) 2 (.int .i64 pg.2.1)).Di (Nat.le_refl _) 3 (.slice A2 pg.2.2.length c2)).trans T6.out⟩
end Go.Proofs.YtjihboddejaelaaGreat
