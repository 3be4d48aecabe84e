/-
  get of package pool.
-/
import Derived.Test.YtjihboddejaelaaGreatTs6
import Derived.Test.YtjihboddejaelaaGreatTs5
import Derived.Test.YtjihboddejaelaaGreatTs1
import Derived.Test.YtjihboddejaelaaGreatTs2
import Derived.Test.YtjihboddejaelaaGreatTs4
import Derived.Deep.RegionLaw
import Derived.Deep.AppendLies
import Derived.Deep.DrawnRows
import Derived.Test.YtjihboddejaelaaGreatTs3
set_option linter.unusedVariables false
set_option linter.unusedSimpArgs false
set_option maxRecDepth 100000
set_option maxHeartbeats 100000000
namespace Go.Proofs.YtjihboddejaelaaGreat
open Go.RowKit Go.BigFrame
section
variable {w w':World} {b b':List (Option Nat)} {gd g m1 m2 m1' m2' p e h t:Nat} {A A1 A2:List Nat} {a:Nat} {P:Pl}
theorem VV0 (H:PM w b gd g m1 m2 p e h t A P) (ok:P.L.ok) (x:Int) :
 Calls Tryz.prog 123 #[Cc g,.int .i64 x] w fun en w'=>en = .returned (.tuple #[.string (P.L.rw.Gy x),.int .i64 (P.L.rw.Ej x)])∧w=w' :=
 YY0 b gd g m1 m2 P.L.rw x w H.log ok.disk (show Bc P.L.fs x≤_ by have:=Ye P.L.fs x;have:=ok.len;omega)
def UF0 (w:World) (b:List (Option Nat)) (gd g m1 m2 p e h t a:Nat) (A:List Nat) (P:Pl) (en:Ending) (w':World):Prop :=
 en = .returned (Cc a)∧PM w' b gd g m1 m2 p e h t (A++[a]) P∧Turn (some a :: allB b g m1 m2 p e h t A) (allB b g m1 m2 p e h t (A++[a])) w w'
theorem CV0 {k:Nat}:some k∈pb p e h t (A++[a])↔k=a∨some k∈pb p e h t A:=by
 rw [Ia,Ia];simp only [List.mem_cons,List.mem_append,List.mem_singleton,List.not_mem_nil,or_false]
 constructor
 ·rintro (h | h | h | h | h | h) <;> simp [h]
 ·rintro (h | h | h | h | h | h) <;> simp [h]
theorem OY0 {f:Pf} {va vb:Value} (H:PM w b gd g m1 m2 p e h t A P) (ha:Has w a 166 #[.int .i64 f.n,.string f.s,.int .i64 f.pins,.bool f.dirty,va,vb]) (hoff:some a∉allB b g m1 m2 p e h t A)
 (hn:∀ q∈P.ring,(q.n:Int)≠(f.n:Int)) (hc:P.ring.length≤1000) (hfn:f.n≤4294967296) :
 Calls Tryz.prog 126 #[Cc p,Cc a] w (UF0 w b gd g m1 m2 p e h t a A { P with ring:=P.ring++[f] }):=by
 have ha1:some a∉b++lb g m1 m2:=fun h2=>hoff (List.mem_append_left _ h2)
 have ha2:some a∉pb p e h t A:=fun h2=>hoff (List.mem_append_right _ h2)
 have hpa:¬ p=a:=fun x=>ha2 (Ia.2 (.inl x.symm))
 have hea:a∉e :: A:=fun x=>ha2 (Ia.2 (.inr (.inr (.inr x))))
 have hta:¬ t=a:=fun x=>ha2 (Ia.2 (.inr (.inr (.inl x.symm))))
 refine (YH0 p a e h (CK0 g e h t P) A P.ring f va vb _ _ w H.has rfl rfl H.ring ha hea H.held H.hp hpa (by omega) hfn).mono ?_
 rintro en w' ⟨he,h1,h2,h3,h5⟩;rw [Iq hn] at h2
 have hm:∀ k,some k∈(some a :: some h :: (e :: A).map some)→k=a∨some k∈pb p e h t A:=fun k hk=>by
  rcases List.mem_cons.1 hk with hk | hk
  ·cases hk;exact .inl rfl
  ·rcases List.mem_cons.1 hk with hk | hk
   ·cases hk;exact .inr (Ia.2 (.inr (.inl rfl)))
   ·exact .inr (Ia.2 (.inr (.inr (.inr (Ld.1 hk)))))
 refine ⟨he,⟨?_,h3,h1, ?_, ?_, ?_,H.ht, ?_⟩, ?_⟩
 ·refine H.log.far h5 (fun k h6 h7=>?_)
  rcases hm k h6 with rfl | h8
  ·exact ha1 h7
  ·exact H.off k h7 h8
 ·refine GM.congr (c:=(P.ring++[f]).length) ?_ (fun x=>(PD0 H.ring.len hn x).symm)
  rw [List.length_append,List.length_singleton];exact h2
 ·refine H.turned.turn h5 (fun h6=>?_)
  rcases List.mem_cons.1 h6 with hk | hk
  ·cases hk;exact hta rfl
  ·rcases List.mem_cons.1 hk with hk | hk
   ·cases hk;exact H.ht rfl
   ·exact H.ring.off H.turned (Ld.1 hk)
 ·intro hx
  rw [← List.cons_append] at hx
  rcases List.mem_append.1 hx with hx | hx
  ·exact H.hp hx
  ·exact hpa (List.mem_singleton.1 hx)
 ·intro k h6 h7
  rcases CV0.1 h7 with rfl | h8
  ·exact ha1 h6
  ·exact H.off k h6 h8
 ·refine h5.wide (fun k hk=>?_) (fun k hk=>.inr ?_)
  ·rcases hm k hk with rfl | h8
   ·exact List.mem_cons_self ..
   ·exact List.mem_cons_of_mem _ (List.mem_append_right _ h8)
  ·rcases List.mem_append.1 hk with hk | hk
   ·exact List.mem_cons_of_mem _ (List.mem_append_left _ hk)
   ·rcases CV0.1 hk with rfl | h8
    ·exact List.mem_cons_self ..
    ·exact List.mem_cons_of_mem _ (List.mem_append_right _ h8)
theorem PM.beside {P1:Pl} {t1:TypeId} {cs:Array Value} (H:PM w b gd g m1 m2 p e h t (A1++a :: A2) P) (H1:PM w' b gd g m1 m2 p e h t (A1++A2) P1) (ha:Has w' a t1 cs):some a∉allB b g m1 m2 p e h t (A1++A2):=by
 have hin:a∈e :: (A1++a :: A2):=List.mem_cons_of_mem _ (List.mem_append_right _ (List.mem_cons_self ..));intro hk
 rcases List.mem_append.1 hk with hk | hk
 ·exact H.off a hk (Ia.2 (.inr (.inr (.inr hin))))
 ·rcases Ia.1 hk with rfl | rfl | rfl | hk
  ·exact H.hp hin
  ·exact H1.held.Fp ha
  ·exact H1.turned.Fp ha
  ·have nd:=H.ring.nodup
   rw [List.nodup_cons,List.nodup_append,List.nodup_cons] at nd;obtain ⟨he,n1,⟨n2,n3⟩,n4⟩:=nd
   rcases List.mem_cons.1 hk with rfl | hk
   ·exact he (List.mem_append_right _ (List.mem_cons_self ..))
   ·rcases List.mem_append.1 hk with hk | hk
    ·exact n4 a hk a (List.mem_cons_self ..) rfl
    ·exact n2 hk
end
theorem BG0 {b:List (Option Nat)} {w w':World} (hb:Below w.heap.size w w') {a:Nat} (ha:w.heap.size≤a):Turn b (some a :: b) w w' :=
 ⟨hb.os,hb.tape,hb.output,hb.size,fun k hk _=>hb.block k hk,fun k hk=>by
   rcases List.mem_cons.1 hk with hk | hk
   ·cases hk;exact .inr ha
   ·exact .inl hk⟩
def GetPost (B:List (Option Nat)) (w:World) (gd g p e h t:Nat) (P:Pl) (E:Int) (en:Ending) (w':World):Prop :=
 ∃ b' m1' m2' A',PM w' b' gd g m1' m2' p e h t A' P∧Turn B (allB b' g m1' m2' p e h t A') w w'∧((E≠0∧en = .returned (.tuple #[.pointer none,.int .i64 E]))∨(E=0∧∃ A0 a,A'=A0++[a]∧en = .returned (.tuple #[Cc a,.int .i64 0])))
def KH0 (x:Int):Prop:=-9223372036854775808≤x∧x≤9223372036854775807
theorem PO0 (b:List (Option Nat)) (gd g m1 m2 p e h t:Nat) (A:List Nat) (P:Pl) (x:Int) (hx:KH0 x) (w:World) (H:PM w b gd g m1 m2 p e h t A P) (ok:P.ok) (fit:Fit P.L.D 1) :
 Calls Tryz.prog 97 #[.pointer (some ⟨p,0,none⟩),.int .i64 x] w (GetPost (allB b g m1 m2 p e h t A) w gd g p e h t (P.get x).1 (P.get x).2):=by
 have HP:=Ac H;have OK:=Ac ok;have FIT:=Ac fit;have WN:=Ac (wfI hx.1 hx.2);have x0:w.cell? ⟨p,0,none⟩=some (Cc g):=H.has.cell 0;have x3:w.cell? ⟨p,3,none⟩=some (.map (some h)):=H.has.cell 3;have x4:w.cell? ⟨p,4,none⟩=some (.int .i64 P.pages):=H.has.cell 4;have x7:w.cell? ⟨p,7,none⟩=some (.int .i64 P.hits):=H.has.cell 7;have xf:=H.has.frozen
 by_cases hin:0≤x∧x<(P.pages:Int)
 ·obtain ⟨i0,i1⟩:=hin
  have g0:¬ x<0:=by omega
  have g1:¬ (P.pages:Int)≤x:=by omega
  have HG:=Ac (show P.get x=match NU0 x P.ring with | some f=>({ P with hits:=wrap64 (P.hits+1),ring:=Oi f.n P.ring++[f] },0) | none=>if P.room.2=0 then P.room.1.fetch x.toNat else P.room from if_pos ⟨i0,i1⟩)
  cases hfd:NU0 x P.ring with
  | some f =>
    obtain ⟨F1,F2,hF,hfx,hne⟩:=Zc hfd;have al:=H.ring.len
    obtain ⟨A1,a,A2,hA,hl⟩:∃ A1 a A2,A=A1++a :: A2∧A1.length=F1.length:=by
     have hk:F1.length<A.length:=by rw [al,hF];simp
     exact ⟨A.take F1.length,A[F1.length],A.drop (F1.length+1),QY0 hk,by rw [List.length_take];omega⟩
    subst hA;have nm:=ok.names
    have HE:Hid (P.get x=({ P with hits:=wrap64 (P.hits+1),ring:=(F1++F2)++[f] },0)):=by
     have:=HG.out;rw [hfd] at this
     have hd:Oi f.n P.ring=F1++F2:=by rw [hF] at nm ⊢;exact Sv nm
     dsimp only at this;rw [hd] at this;exact this
    have HK:Hid (EY1 (Fb (A1++a :: A2) P.ring x)=Cc a):=by
     rw [← hfx,hF,KM0 (by rw [← hF];exact nm) hl];rfl
    have FN:f.n≤4294967296:=by have:=ok.pages f (by rw [hF];exact List.mem_append_right _ (List.mem_cons_self ..));have:=ok.few;omega
    have ST:=Ac (H.set (P':={ P with hits:=wrap64 (P.hits+1) }) 7 (.int .i64 (wrap64 (P.hits+1))) rfl rfl rfl rfl)
    have LV:=Ac (GS0 ST.out.1 hF hl nm FN);have HM:=Ac H.held;have HF:=Ac hF
    have NM:=Ac (Iu (show ((F1++f :: F2).map (·.n)).Nodup by rw [← hF];exact nm))
    have FL:=Ac (show (F1++F2).length≤1000 by have h1:=ok.full;have h2:=ok.most;rw [hF] at h1;simp at h1 ⊢;omega)
    have LST:=Ac (fun (w1:World) (va vb:Value) (hp1:PM w1 b gd g m1 m2 p e h t (A1++A2) { P with hits:=wrap64 (P.hits+1),ring:=F1++F2 }) (ha:Has w1 a 166 #[.int .i64 f.n,.string f.s,.int .i64 f.pins,.bool f.dirty,va,vb]) =>
     OY0 hp1 ha (ST.out.1.beside hp1 ha) (fun q hq=>(List.mem_append.1 hq).elim (NM.out.1 q) (NM.out.2.1 q)) FL.out FN)
    clear hF hfx hne hfd nm al hl H ok fit FN
    go_enter Tryz.func97,Tryz.ntmps97
    go_wp2_with (first
     | (at_lookup;refine Ii _ rfl _ _ rfl h _ (Fb (A1++a :: A2) P.ring) rfl HM.out x rfl WN.out ?_;rw [HK.out])
     | (go_at_call 164;refine LV.out.mono ?_;rintro e2 w1 ⟨rfl,hpm,⟨va,vb,ha⟩,ht⟩)
     | (go_at_call 126;refine (LST.out _ _ _ hpm ha).mono ?_;rintro e2 w2 ⟨rfl,hpm2,ht2⟩))
    go_ret2
    rw [HE.out]
    refine ⟨b,m1,m2,_,hpm2, ?_,.inr ⟨rfl,_,a,rfl,rfl⟩⟩
    refine ((ST.out.2.trans ht).wide (c:=allB b g m1 m2 p e h t (A1++a :: A2)) (c':=some a :: allB b g m1 m2 p e h t (A1++A2)) (fun k hk=>hk) (fun k hk=>?_)).trans ht2
    rcases List.mem_cons.1 hk with hk | hk
    ·cases hk;exact .inr (List.mem_append_right _ (Ia.2 (.inr (.inr (.inr (List.mem_cons_of_mem _ (List.mem_append_right _ (List.mem_cons_self ..))))))))
    ·exact .inl hk
  | none =>
    have hne:=Yi hfd
    obtain ⟨n,rfl⟩:∃ n:Nat,x=n:=⟨x.toNat,by omega⟩
    have HK:Hid (EY1 (Fb A P.ring n) = .pointer none):=by rw [Iq hne];rfl
    have HM:=Ac H.held;have RM:=Ac (KK0 b gd g m1 m2 p e h t A P w H ok fit);have RO:=Ac (ED0 ok);have RS:=Ac (Kv (P:=P));have HNE:=Ac hne;have HQ:=HG.out;rw [hfd] at HQ;dsimp only at HQ;obtain ⟨R,hR⟩:∃ R,P.room.1=R:=⟨_,rfl⟩;obtain ⟨E,hE⟩:∃ E,P.room.2=E:=⟨_,rfl⟩
    have hR2:P.room=(R,E):=by rw [← hR,← hE]
    rw [hR2] at RM RO RS HQ;dsimp only at RM RO RS HQ;have HQQ:=Ac HQ;clear hfd hne hR hE hR2 HQ HG H ok fit i0 i1
    by_cases hE0:E=0
    ·subst hE0
     obtain ⟨ER,hER⟩:∃ ER,R.L.rw.Ej n=ER:=⟨_,rfl⟩;obtain ⟨TX,hTX⟩:∃ TX,R.L.rw.Gy n=TX:=⟨_,rfl⟩
     have RD:Hid (∀ (w1:World) b1 n1 n2 A1,PM w1 b1 gd g n1 n2 p e h t A1 R→Calls Tryz.prog 123 #[Cc g,.int .i64 (n:Int)] w1 fun en w'=>en = .returned (.tuple #[.string TX,.int .i64 ER])∧w1=w'):=fun w1 b1 n1 n2 A1 hq=>by
      have:=VV0 hq RO.out.1.log n;rw [hER,hTX] at this;exact this
     have HF:Hid (P.get n=if ER=0 then ({ R with misses:=wrap64 (R.misses+1),ring:=R.ring++[⟨n,TX,0,false⟩] },0) else (R,ER)):=by
      have:=HQQ.out;rw [if_pos rfl] at this;rw [this];unfold Pl.fetch;rw [Int.toNat_natCast,hER,hTX];exact Ac rfl
     clear hER hTX HQQ
     by_cases hr0:ER=0
     ·subst hr0
      have HF0:=Ac (HF.out.trans (if_pos rfl));clear HF
      have LST:Hid (∀ (w1:World) b1 n1 n2 A1,PM w1 b1 gd g n1 n2 p e h t A1 R →
       Calls Tryz.prog 126 #[Cc p,Cc w1.heap.size] ((w1.setCell ⟨p,8,none⟩ (.int .i64 (wrap64 (R.misses+1)))).alloc (.cells #[.int .i64 (n:Int),.string TX,.int .i64 0,.bool false,.pointer none,.pointer none] 166))
        (fun en w'=>en = .returned (Cc w1.heap.size)∧PM w' b1 gd g n1 n2 p e h t (A1++[w1.heap.size]) { R with misses:=wrap64 (R.misses+1),ring:=R.ring++[⟨n,TX,0,false⟩] }∧Turn (allB b1 g n1 n2 p e h t A1) (allB b1 g n1 n2 p e h t (A1++[w1.heap.size])) w1 w')):=fun w1 b1 n1 n2 A1 hq=>by
       obtain ⟨s1,s2⟩:=hq.set (P':={ R with misses:=wrap64 (R.misses+1) }) 8 (.int .i64 (wrap64 (R.misses+1))) rfl rfl rfl rfl
       have hb:Below (w1.setCell ⟨p,8,none⟩ (.int .i64 (wrap64 (R.misses+1)))).heap.size (w1.setCell ⟨p,8,none⟩ (.int .i64 (wrap64 (R.misses+1)))) ((w1.setCell ⟨p,8,none⟩ (.int .i64 (wrap64 (R.misses+1)))).alloc (.cells #[.int .i64 (n:Int),.string TX,.int .i64 0,.bool false,.pointer none,.pointer none] 166)):=(Below.refl _ _).alloc (Nat.le_refl _) _
       have hz:(w1.setCell ⟨p,8,none⟩ (.int .i64 (wrap64 (R.misses+1)))).heap.size=w1.heap.size:=by simp
       have hnew:=Has.new (w1.setCell ⟨p,8,none⟩ (.int .i64 (wrap64 (R.misses+1)))) 166 #[.int .i64 (n:Int),.string TX,.int .i64 0,.bool false,.pointer none,.pointer none];rw [hz] at hnew;have hlt:=RO.out.2 rfl
       refine (OY0 (f:=⟨n,TX,0,false⟩) (s1.below hb) hnew (fun hk=>?_) (fun q hq2=>HNE.out q (RS.out.2.2.2.2 q hq2)) ?_ ?_).mono ?_
       ·have:=hq.lt _ hk;omega
       ·show R.ring.length≤1000
        have:=OK.out.most;have:=RO.out.1.full;have:=RO.out.1.most;omega
       ·show n≤4294967296
        have:=OK.out.few;omega
       ·rintro en w' ⟨he,h1,h2⟩
        refine ⟨he,h1,(s2.trans (BG0 hb (a:=w1.heap.size) (by rw [hz];exact Nat.le_refl _))).trans h2⟩
      go_enter Tryz.func97,Tryz.ntmps97
      go_wp2_with (first
       | (at_lookup;refine Ii _ rfl _ _ rfl h _ (Fb A P.ring) rfl HM.out n rfl WN.out ?_;rw [HK.out])
       | (go_at_call 125;refine RM.out.mono ?_;rintro e2 w1 ⟨rfl,b1,n1,n2,A1,hpm,ht⟩;have y0:w1.cell? ⟨p,0,none⟩=some (Cc g):=hpm.has.cell 0;have y8:w1.cell? ⟨p,8,none⟩=some (.int .i64 R.misses):=hpm.has.cell 8;have yf:=hpm.has.frozen)
       | (go_at_call 123;refine (RD.out _ _ _ _ _ hpm).mono ?_;rintro e2 w2 ⟨rfl,rfl⟩)
       | (go_at_call 126;refine (LST.out _ _ _ _ _ hpm).mono ?_;rintro e2 w2 ⟨rfl,hpm2,ht2⟩))
      go_ret2
      rw [HF0.out];exact ⟨b1,n1,n2,_,hpm2,ht.trans ht2,.inr ⟨rfl,_,_,rfl,rfl⟩⟩
     ·have HF0:=Ac (HF.out.trans (if_neg hr0))
      clear HF
      go_enter Tryz.func97,Tryz.ntmps97
      go_wp2_with (first
       | (at_lookup;refine Ii _ rfl _ _ rfl h _ (Fb A P.ring) rfl HM.out n rfl WN.out ?_;rw [HK.out])
       | (go_at_call 125;refine RM.out.mono ?_;rintro e2 w1 ⟨rfl,b1,n1,n2,A1,hpm,ht⟩;have y0:w1.cell? ⟨p,0,none⟩=some (Cc g):=hpm.has.cell 0)
       | (go_at_call 123;refine (RD.out _ _ _ _ _ hpm).mono ?_;rintro e2 w2 ⟨rfl,rfl⟩))
      go_ret2
      rw [HF0.out];exact ⟨b1,n1,n2,A1,hpm,ht,.inl ⟨hr0,rfl⟩⟩
    ·have HF:Hid (P.get n=(R,E)):=by
      have:=HQQ.out;rw [if_neg hE0] at this;exact this
     clear HQQ
     go_enter Tryz.func97,Tryz.ntmps97
     go_wp2_with (first
      | (at_lookup;refine Ii _ rfl _ _ rfl h _ (Fb A P.ring) rfl HM.out n rfl WN.out ?_;rw [HK.out])
      | (go_at_call 125;refine RM.out.mono ?_;rintro e2 w1 ⟨rfl,b1,n1,n2,A1,hpm,ht⟩))
     go_ret2
     rw [HF.out];exact ⟨b1,n1,n2,A1,hpm,ht,.inl ⟨hE0,rfl⟩⟩
 ·have HE:Hid (P.get x=(P,7)):=if_neg hin
  clear H ok fit
  by_cases g0:x<0
  ·go_enter Tryz.func97,Tryz.ntmps97
   go_wp2_with fail
   go_ret2
   rw [HE.out]
   exact ⟨b,m1,m2,A,HP.out,Turn.refl _ _,.inl ⟨(by show (7:Int)≠0;decide),rfl⟩⟩
  ·have g1:(P.pages:Int)≤x:=by omega
   clear hin
   go_enter Tryz.func97,Tryz.ntmps97
   go_wp2_with fail
   go_ret2
   rw [HE.out]
   exact ⟨b,m1,m2,A,HP.out,Turn.refl _ _,.inl ⟨(by show (7:Int)≠0;decide),rfl⟩⟩
open Go.Maps
theorem GK0 {L:Lg} {k:Nat} (h:Fit L.D (k+1)) (n:Int) (t:ByteArray):Fit (L.append n t).D k:=by
 unfold Lg.append
 split
 ·exact h.write _ _ _
 ·exact h.less (by omega)
section
variable {D:Dk} {k:Nat}
theorem BH1 {L:Lg} (h:Fit L.D (k+2)) (f p:Nat):Fit (L.tell f p).D k:=by
 have h1:Fit (L.Bi f p) (k+1):=h.write _ _ _;unfold Lg.tell
 split
 ·exact h1.less (by omega)
 ·have h2:Fit ((L.Bi f p).sync 1) k:=h1.sync 1
  split
  ·exact h2
  ·exact h2
theorem RO0 {L:Lg} (h:Fit L.D (k+4)) (n:Int) (t:ByteArray) (p:Int):Fit (L.Eu n t p).D k:=by
 have h1:Fit (L.append n t).D (k+3):=GK0 h n t;have h2:Fit ((L.append n t).D.sync 1) (k+2):=h1.sync _;unfold Lg.Eu
 split
 ·split
  ·split
   ·exact h2.less (by omega)
   ·exact BH1 (L:={ L.append n t with D:=(L.append n t).D.sync 1 }) h2 _ _
  ·exact h1.less (by omega)
 ·exact h.less (by omega)
theorem FS0 (h:Fit D (k+4)):Fit (Lg.opened D).D k:=by
 unfold Lg.opened
 split
 ·have h1:Fit (D.Uu 1 0) (k+3):=h.cut _ _
  have h2:Fit ((D.Uu 1 0).sync 1) (k+2):=h1.sync _;have h3:Fit (((D.Uu 1 0).sync 1).write 1 0 (bsOf (Hu++slotL 1 0 ((D.seen 0).length / 1024)))) (k+1):=h2.write _ _ _;have h4:Fit (Pz D) k:=h3.sync 1
  generalize Pz D=X at h4 ⊢
  exact h4
 ·exact h.less (by omega)
theorem OH0 (h:D.calm):(Lg.opened D).D.calm:=by
 unfold Lg.opened
 split
 ·have h4:(Pz D).calm:=(((h.cut 1 0).sync 1).write 1 0 (bsOf (Hu++slotL 1 0 ((D.seen 0).length / 1024)))).sync 1
  generalize Pz D=X at h4 ⊢
  exact h4
 ·exact h
theorem PJ0:Fit Dk.new 30000000:=⟨Dk.EJ1,by decide,by decide⟩
end
end Go.Proofs.YtjihboddejaelaaGreat
namespace Go.Proofs.YtjihboddejaelaaGreat
open Go.RowKit Go.BigFrame
section
variable {w w':World} {b b':List (Option Nat)} {gd g m1 m2 m1' m2' p e h t:Nat} {A A1 A2:List Nat} {a:Nat} {P:Pl}
theorem PM.frame {F1 F2:List Pf} {f f':Pf} (H:PM w b gd g m1 m2 p e h t (A1++a :: A2) P) (hF:P.ring=F1++f :: F2) (hl:A1.length=F1.length) (i:Nat) (v:Value) (hn:f'.n=f.n) (hc:∀ x y,(frC f x y).setIfInBounds i v=frC f' x y) :
 PM (w.setCell ⟨a,i,none⟩ v) b gd g m1 m2 p e h t (A1++a :: A2) { P with ring:=F1++f' :: F2 }∧Turn (allB b g m1 m2 p e h t (A1++a :: A2)) (allB b g m1 m2 p e h t (A1++a :: A2)) w (w.setCell ⟨a,i,none⟩ v):=by
 have hin:a∈e :: (A1++a :: A2):=List.mem_cons_of_mem _ (List.mem_append_right _ (List.mem_cons_self ..));have hm:some a∈pb p e h t (A1++a :: A2):=Ia.2 (.inr (.inr (.inr hin)));have hr:=H.ring;rw [hF] at hr;have hat:=hr.at hl;have nd:=hr.nodup;rw [List.nodup_cons,List.nodup_append,List.nodup_cons] at nd;obtain ⟨he,n1,⟨n2,n3⟩,n4⟩:=nd
 have hea:¬ e=a:=fun x=>he (x ▸ List.mem_append_right _ (List.mem_cons_self ..))
 have hpa:¬ p=a:=fun x=>H.hp (x ▸ hin)
 have hha:¬ h=a:=fun x=>by subst x;exact H.held.Fp hat
 have hta:¬ t=a:=fun x=>by subst x;exact H.turned.Fp hat
 have ht:=Ez [some a] a i v w (List.mem_singleton.2 rfl)
 refine ⟨⟨?_,H.has.far hpa v,⟨hr.nodup,hr.ends.far hea v, ?_⟩, ?_,H.turned.far hta v,H.hp,H.ht,H.off⟩,Ez _ a i v w (List.mem_append_right _ hm)⟩
 ·exact H.log.far ht (fun k h5 h6=>by cases List.mem_singleton.1 h5;exact H.off a h6 hm)
 ·exact DT1 hr.row hl (fun x=>n4 a x a (List.mem_cons_self ..) rfl) n2 (fun x hx=>Below.heap_setCell _ _ _ _ hx) (fun x y hh=>by have:=hh.set i v;rw [hc] at this;exact this)
 ·have hg:=H.held.far (p:=⟨a,i,none⟩) hha v
  have hlen:(F1++f' :: F2).length=P.ring.length:=by rw [hF];simp
  show GM Tm _ h (Fb _ (F1++f' :: F2)) (F1++f' :: F2).length
  rw [hlen]
  refine hg.congr fun x=>?_
  rw [hF,Jc hl,Jc hl,Fb,Fb,hn]
theorem SZ0 (n:Nat) (T:List Nat) (x:Int):Tv (Vj n T) x=if x=n then some 1 else Tv T x:=by
 unfold Vj
 by_cases hx:x=n
 ·subst hx
  rw [if_pos rfl];unfold Tv;rw [if_pos]
  split
  ·rename_i h;exact ⟨n,h,rfl⟩
  ·exact ⟨n,List.mem_cons_self ..,rfl⟩
 ·rw [if_neg hx]
  split
  ·rfl
  ·unfold Tv
   have:(∃ m∈n :: T,(m:Int)=x)↔∃ m∈T,(m:Int)=x:=by
    constructor
    ·rintro ⟨m,hm,e⟩
     rcases List.mem_cons.1 hm with rfl | hm
     ·exact absurd e.symm hx
     ·exact ⟨m,hm,e⟩
    ·rintro ⟨m,hm,e⟩;exact ⟨m,List.mem_cons_of_mem _ hm,e⟩
   simp only [this]
theorem OL0 (n:Nat) (T:List Nat):(Tv T n).isSome=decide (n∈T):=by
 unfold Tv
 by_cases hn:n∈T
 ·rw [if_pos ⟨n,hn,rfl⟩,decide_eq_true hn];rfl
 ·rw [if_neg,decide_eq_false hn]
  ·rfl
  ·rintro ⟨m,hm,e⟩
   have:m=n:=by omega
   exact hn (this ▸ hm)
theorem PM.tell {n:Nat} (H:PM w b gd g m1 m2 p e h t A P) (hm:GM (plainElem Tryz.prog 3) w' t (fun z=>if z=(n:Int) then some 1 else Tv P.turned z) (if (Tv P.turned n).isSome then P.turned.length else P.turned.length+1)) (hg:w.grownBy w' (some t)) :
 PM w' b gd g m1 m2 p e h t A { P with turned:=Vj n P.turned }∧Turn (allB b g m1 m2 p e h t A) (allB b g m1 m2 p e h t A) w w':=by
 have hm2:some t∈pb p e h t A:=Ia.2 (.inr (.inr (.inl rfl)));have ht:=Uw hg (List.mem_singleton.2 rfl:some t∈[some t])
 have hpt:¬ p=t:=fun x=>by subst x;exact H.turned.Fp H.has
 have hne:=H.ring.off H.turned
 refine ⟨⟨?_,H.has.grown hg (fun x=>hpt (Option.some.inj x)),H.ring.grown hg (fun x hx y=>hne (Option.some.inj y ▸ hx)),H.held.turn ht (fun x=>H.ht (Option.some.inj (List.mem_singleton.1 x))), ?_,H.hp,H.ht,H.off⟩,Uw hg (List.mem_append_right _ hm2)⟩
 ·exact H.log.far ht (fun k h5 h6=>by cases List.mem_singleton.1 h5;exact H.off t h6 hm2)
 ·have hc:(if (Tv P.turned n).isSome then P.turned.length else P.turned.length+1)=(Vj n P.turned).length:=by
   rw [OL0];unfold Vj
   by_cases hn:n∈P.turned
   ·simp [hn]
   ·simp [hn]
  rw [hc] at hm
  exact hm.congr fun x=>(SZ0 n P.turned x).symm
end
theorem Uy {P:Pl} (ok:P.ok) {x:Int} (h:(P.get x).2=0):∃ F0 f,(P.get x).1.ring=F0++[f]∧(f.n:Int)=x∧0≤x∧x<(P.pages:Int):=by
 unfold Pl.get at h ⊢
 split
 ·rename_i hx
  rw [if_pos hx] at h
  split
  ·rename_i f hf
   obtain ⟨F1,F2,e,h1,h2⟩:=Zc hf;exact ⟨_,f,rfl,h1,hx.1,hx.2⟩
  ·rename_i hf
   rw [hf] at h;dsimp only at h
   split
   ·rename_i hr
    rw [if_pos hr] at h;unfold Pl.fetch at h ⊢
    split
    ·exact ⟨_,_,rfl,Int.toNat_of_nonneg hx.1,hx.1,hx.2⟩
    ·rename_i hE
     rw [if_neg hE] at h;exact absurd h hE
   ·rename_i hr
    rw [if_neg hr] at h;exact absurd h hr
 ·rename_i hx
  rw [if_neg hx] at h;cases h
theorem Va {P:Pl} {F0:List Pf} {f:Pf} (h:P.ring=F0++[f]):P.Pv=f∧∀ f',P.setLast f'={ P with ring:=F0++[f'] }:=by
 unfold Pl.Pv Pl.setLast;rw [h]
 exact ⟨by simp,fun f'=>by simp⟩
theorem Rx:∀ (n:Nat) (T:List Nat),T.Nodup→(∀ x∈T,x<n)→T.length≤n
 | 0,T,_,h=>by
   cases T with
   | nil=>exact Nat.le_refl _
   | cons x t=>exact absurd (h x (List.mem_cons_self ..)) (by omega)
 | n+1,T,hn,h=>by
   have h1:=Rx n (T.erase n) (hn.erase n) (fun x hx=>by
    have h2:=h x (List.mem_of_mem_erase hx)
    have h3:x≠n:=fun e=>by subst e;exact (hn.mem_erase_iff.1 hx).1 rfl
    omega)
   rw [List.length_erase] at h1
   split at h1 <;> omega
def DM1 (B:List (Option Nat)) (w:World) (gd g p e h t:Nat) (P:Pl) (F0:List Pf) (f:Pf) (en:Ending) (w':World):Prop :=
 ∃ b' m1' m2' A0 a,PM w' b' gd g m1' m2' p e h t (A0++[a]) P∧Turn B (allB b' g m1' m2' p e h t (A0++[a])) w w'∧en = .returned (.tuple #[Cc a,.int .i64 0])∧A0.length=F0.length∧∃ x y,Has w' a 166 (frC f x y)
def BM1 (B:List (Option Nat)) (w:World) (gd g p e h t:Nat) (P:Pl) (E:Int) (en:Ending) (w':World):Prop :=
 ∃ b' m1' m2' A',PM w' b' gd g m1' m2' p e h t A' P∧Turn B (allB b' g m1' m2' p e h t A') w w'∧en = .returned (.tuple #[.pointer none,.int .i64 E])
theorem VG0 {B:List (Option Nat)} {w w':World} {gd g p e h t:Nat} {P:Pl} {en:Ending} {F0:List Pf} {f:Pf} (hF:P.ring=F0++[f]) (hg:GetPost B w gd g p e h t P 0 en w'):DM1 B w gd g p e h t P F0 f en w':=by
 obtain ⟨b',n1,n2,A',h1,h2,⟨h3,_⟩ | ⟨_,A0,a,rfl,h3⟩⟩:=hg
 ·exact absurd rfl h3
 ·have hr:=h1.ring
  rw [hF] at hr
  have hl:A0.length=F0.length:=by have:=hr.len;simp at this;omega
  exact ⟨b',n1,n2,A0,a,h1,h2,h3,hl,_,_,hr.at (A2:=[]) (F2:=[]) hl⟩
theorem get_miss {B:List (Option Nat)} {w w':World} {gd g p e h t:Nat} {P:Pl} {E:Int} {en:Ending} (hE:¬ E=0) (hg:GetPost B w gd g p e h t P E en w'):BM1 B w gd g p e h t P E en w':=by
 obtain ⟨b',n1,n2,A',h1,h2,⟨_,h3⟩ | ⟨h3,_⟩⟩:=hg
 ·exact ⟨b',n1,n2,A',h1,h2,h3⟩
 ·exact absurd h3 hE
def AY1 (B:List (Option Nat)) (w:World) (gd g p e h t:Nat) (P:Pl) (s:ByteArray) (E:Int) (en:Ending) (w':World):Prop :=
 en = .returned (.tuple #[.string s,.int .i64 E])∧∃ b' m1' m2' A',PM w' b' gd g m1' m2' p e h t A' P∧Turn B (allB b' g m1' m2' p e h t A') w w'
def Pl.text (P:Pl) (x:Int):ByteArray:=if (P.get x).2=0 then (P.get x).1.Pv.s else ⟨#[]⟩
theorem DZ0 (b:List (Option Nat)) (gd g m1 m2 p e h t:Nat) (A:List Nat) (P:Pl) (x:Int) (hx:KH0 x) (w:World) (H:PM w b gd g m1 m2 p e h t A P) (ok:P.ok) (fit:Fit P.L.D 1) :
 Calls Tryz.prog 70 #[.pointer (some ⟨p,0,none⟩),.int .i64 x] w (AY1 (allB b g m1 m2 p e h t A) w gd g p e h t (P.get x).1 (P.text x) (P.get x).2):=by
 have GT:=Ac (PO0 b gd g m1 m2 p e h t A P x hx w H ok fit);have GL:=Ac (Uy ok (x:=x))
 have TX:Hid (P.text x=if (P.get x).2=0 then (P.get x).1.Pv.s else ⟨#[]⟩):=rfl
 obtain ⟨T,hT⟩:∃ T,P.text x=T:=⟨_,rfl⟩;obtain ⟨Q,hQ⟩:∃ Q,(P.get x).1=Q:=⟨_,rfl⟩;obtain ⟨E,hE⟩:∃ E,(P.get x).2=E:=⟨_,rfl⟩;rw [hT,hQ,hE] at TX;rw [hQ,hE] at GT GL;rw [hT,hQ,hE];clear H ok fit hT hQ hE
 by_cases hE0:E=0
 ·subst hE0
  obtain ⟨F0,f,hF,hfx,i0,i1⟩:=GL.out rfl
  have HT:Hid (T=f.s):=by have:=TX.out;rw [if_pos rfl,(Va hF).1] at this;exact this
  have HF:=Ac hF;clear TX GL hfx i0 i1 hF
  have G0:=Ac (GT.out.mono fun en w' hg=>VG0 HF.out hg)
  clear GT
  go_enter Tryz.func70,Tryz.ntmps70
  go_wp2_with (go_at_call 97;refine G0.out.mono ?_;rintro en w1 ⟨b1,n1,n2,A0,a,hpm,ht,rfl,hl,xa,ya,hat⟩;have HL:=Ac hl;clear hl;have a1:w1.cell? ⟨a,1,none⟩=some (.string f.s):=hat.cell 1)
  go_ret2
  rw [HT.out];exact ⟨rfl,b1,n1,n2,_,hpm,ht⟩
 ·have HT:Hid (T=⟨#[]⟩):=by have:=TX.out;rw [if_neg hE0] at this;exact this
  have G0:=Ac (GT.out.mono fun en w' hg=>get_miss hE0 hg)
  clear TX GL GT
  go_enter Tryz.func70,Tryz.ntmps70
  go_wp2_with (go_at_call 97;refine G0.out.mono ?_;rintro en w1 ⟨b1,n1,n2,A1,hpm,ht,rfl⟩)
  go_ret2
  rw [HT.out];exact ⟨rfl,b1,n1,n2,_,hpm,ht⟩
theorem put_eq {P:Pl} {x:Int} {s:ByteArray} {F0:List Pf} {f:Pf} (h:(P.get x).2=0) (hF:(P.get x).1.ring=F0++[f]) (hn:(f.n:Int)=x) :
 P.put x s=({ (P.get x).1 with ring:=F0++[{ f with s:=s,dirty:=true }],turned:=Vj f.n (P.get x).1.turned },0):=by
 unfold Pl.put;rw [if_pos h,(Va hF).1,(Va hF).2,← hn,Int.toNat_natCast]
theorem BF0 (b:List (Option Nat)) (gd g m1 m2 p e h t:Nat) (A:List Nat) (P:Pl) (x:Int) (hx:KH0 x) (s:ByteArray) (w:World) (H:PM w b gd g m1 m2 p e h t A P) (ok:P.ok) (fit:Fit P.L.D 1) :
 Calls Tryz.prog 128 #[.pointer (some ⟨p,0,none⟩),.int .i64 x,.string s] w (Yg (allB b g m1 m2 p e h t A) w gd g p e h t (P.put x s).1 (P.put x s).2):=by
 have GT:=Ac (PO0 b gd g m1 m2 p e h t A P x hx w H ok fit);have GOK:=Ac (AF0 ok x)
 by_cases hE0:(P.get x).2=0
 ·obtain ⟨F0,f,hF,hfx,i0,i1⟩:=Uy ok hE0
  have HE:=Ac (put_eq (s:=s) hE0 hF hfx);obtain ⟨Q,hQ⟩:∃ Q,(P.get x).1=Q:=⟨_,rfl⟩;rw [hQ] at hF;rw [hQ,hE0] at GT;rw [hQ] at HE GOK;have HF:=Ac hF;have WN:=Ac (wfI hx.1 hx.2)
  have TL:=Ac (Nat.le_trans (Rx _ _ GOK.out.turnd GOK.out.turns) (Nat.le_trans GOK.out.few (by decide:65536≤100000000)))
  have G0:=Ac (GT.out.mono fun en w' hg=>VG0 HF.out hg)
  subst hfx;clear H ok fit hE0 hF hQ i0 i1 GT
  go_enter Tryz.func128,Tryz.ntmps128
  go_upto_region 6 with (go_at_call 97;refine G0.out.mono ?_;rintro en w1 ⟨b1,n1,n2,A0,a,hpm,ht,rfl,hl,xa,ya,hat⟩;have HL:=Ac hl;have HM:=Ac hpm;have HT:=Ac ht;clear hl ht;have a1:w1.cell? ⟨a,1,none⟩=some (.string f.s):=hat.cell 1;have a3:w1.cell? ⟨a,3,none⟩=some (.bool f.dirty):=hat.cell 3;have af:=hat.frozen;clear hpm hat)
  obtain ⟨s1,t1⟩:=HM.out.frame (f':={ f with s:=s }) (A2:=[]) (F2:=[]) HF.out HL.out 1 (.string s) rfl (fun x y=>rfl)
  obtain ⟨s2,t2⟩:=s1.frame (f':={ f with s:=s,dirty:=true }) (A2:=[]) (F1:=F0) (F2:=[]) rfl HL.out 3 (.bool true) rfl (fun x y=>rfl)
  have S2:=Ac s2;have T2:=Ac ((HT.out.trans t1).trans t2);clear s1 t1 s2 t2 a1 a3 af
  generalize (w1.setCell ⟨a,1,none⟩ (.string s)).setCell ⟨a,3,none⟩ (.bool true)=W at *
  have y6:W.cell? ⟨p,6,none⟩=some (.map (some t)):=S2.out.has.cell 6;have MT:=Ac S2.out.turned
  go_wp2_with (at_mapUpdate;refine Xe _ rfl _ _ _ 104 3 rfl Tryz.underlying104 t _ _ rfl MT.out TL.out (f.n:Int) rfl WN.out _ 1 rfl [] (GN0 1 (by omega)) ?_;intro w3 hm3 hg3)
  go_ret
  obtain ⟨s3,t3⟩:=S2.out.tell (n:=f.n) hm3 hg3;rw [HE.out];exact ⟨rfl,b1,n1,n2,_,s3,T2.out.trans t3⟩
 ·have HE:Hid (P.put x s=P.get x):=if_neg hE0
  rw [HE.out];obtain ⟨Q,hQ⟩:∃ Q,(P.get x).1=Q:=⟨_,rfl⟩;obtain ⟨E,hE⟩:∃ E,(P.get x).2=E:=⟨_,rfl⟩;rw [hQ,hE] at GT;rw [hQ,hE];rw [hE] at hE0
  have G0:=Ac (GT.out.mono fun en w' hg=>get_miss hE0 hg)
  clear H ok fit hQ hE GT
  go_enter Tryz.func128,Tryz.ntmps128
  go_wp2_with (go_at_call 97;refine G0.out.mono ?_;rintro en w1 ⟨b1,n1,n2,A1,hpm,ht,rfl⟩)
  go_ret
  exact ⟨rfl,b1,n1,n2,_,hpm,ht⟩
theorem UA0 (b:List (Option Nat)) (gd g m1 m2 p e h t:Nat) (A:List Nat) (P:Pl) (x:Int) (hx:KH0 x) (s:ByteArray) (w:World) (H:PM w b gd g m1 m2 p e h t A P) (ok:P.ok) (fit:Fit P.L.D 1) :
 Calls Tryz.prog 72 #[.pointer (some ⟨p,0,none⟩),.int .i64 x,.string s] w (Yg (allB b g m1 m2 p e h t A) w gd g p e h t (P.write x s).1 (P.write x s).2):=by
 have PT:=Ac (BF0 b gd g m1 m2 p e h t A P x hx s w H ok fit);have HP:=Ac H
 by_cases hx0:x=0
 ·have HE:Hid (P.write x s=(P,1)):=if_pos (.inl hx0)
  rw [HE.out];subst hx0;clear H ok fit
  go_enter Tryz.func72,Tryz.ntmps72
  go_wp2_with fail
  go_ret
  exact ⟨rfl,b,m1,m2,A,HP.out,Turn.refl _ _⟩
 ·have e0:(x == 0)=false:=beq_eq_false_iff_ne.2 hx0
  by_cases hs:s.size=1024
  ·have HE:Hid (P.write x s=P.put x s):=if_neg (fun h=>h.elim hx0 fun h2=>h2 hs)
   rw [HE.out];obtain ⟨Q,hQ⟩:∃ Q,P.put x s=Q:=⟨_,rfl⟩;rw [hQ] at PT ⊢
   have z:(s.size:Int)=1024:=by omega
   clear H ok fit hx0 hQ hs
   go_enter Tryz.func72,Tryz.ntmps72
   go_wp2_with (go_at_call 128;refine PT.out.mono ?_;rintro en w1 ⟨rfl,b1,n1,n2,A1,hpm,ht⟩)
   go_ret
   exact ⟨rfl,b1,n1,n2,A1,hpm,ht⟩
  ·have HE:Hid (P.write x s=(P,1)):=if_pos (.inr hs)
   rw [HE.out]
   have z:((s.size:Int) == 1024)=false:=by rw [beq_eq_false_iff_ne];omega
   have z2:((s.size:Int) != 1024)=true:=by rw [bne_iff_ne];omega
   clear H ok fit hx0 hs
   go_enter Tryz.func72,Tryz.ntmps72
   go_wp2_with fail
   go_ret
   exact ⟨rfl,b,m1,m2,A,HP.out,Turn.refl _ _⟩
theorem SO0 (b:List (Option Nat)) (gd g m1 m2 p e h t:Nat) (A:List Nat) (P:Pl) (w:World) (H:PM w b gd g m1 m2 p e h t A P):Calls Tryz.prog 16 #[.pointer (some ⟨p,0,none⟩)] w fun e w'=>e = .returned (.int .i64 P.pages)∧w=w':=by
 have x4:w.cell? ⟨p,4,none⟩=some (.int .i64 P.pages):=H.has.cell 4;clear H
 go_enter Tryz.func16,Tryz.ntmps16
 go_wp2_with fail
 go_ret
 exact ⟨rfl,rfl⟩
attribute [local go_sem] Fv Cj Bq Act.put
def Vb (w:World) (o:Option Pg) (bad:Value) (e:Ending) (w':World):Prop :=
 match o with
 | none=>e = .returned (.tuple #[.agg #[.int .i64 0,.int .i64 0,.slice none 0 0],bad])∧Below w.heap.size w w'
 | some p=>∃ A c,e = .returned (.tuple #[.agg #[.int .i64 p.1,.int .i64 p.2.1,.slice A p.2.2.length c],.int .i64 0])∧SS w' A p.2.2.length p.2.2∧Below w.heap.size w w'
theorem SB0 {s:ByteArray} (h:s.size≠1024):Hr s=none:=by unfold Hr;rw [if_pos (.inl h)]
theorem VH0 {s:ByteArray} (h:Ul s.data.toList 0≠JJ0 (s.data.toList.drop 4)):Hr s=none:=by unfold Hr;rw [if_pos (.inr (.inl h))]
theorem MX0 {s:ByteArray} (h:1024<12+2*Gs s.data.toList 6):Hr s=none:=by unfold Hr;rw [if_pos (.inr (.inr h))]
theorem AD1 {s:ByteArray} (h1:s.size=1024) (h2:Ul s.data.toList 0=JJ0 (s.data.toList.drop 4)) (h3:¬ 1024<12+2*Gs s.data.toList 6):Hr s=EV0 s (Gs s.data.toList 6):=by
 unfold Hr;rw [if_neg];rintro (h | h | h);exact h h1;exact h h2;exact h3 h
theorem JA0 {s:ByteArray} (h:s.size=1024):(s.extract 4 1024).data.toList=s.data.toList.drop 4:=by
 rw [Lib.extract_data,List.take_of_length_le (by simp;omega)]
theorem EC1 {w w':World} {o:Option Pg} {bad:Value} (h:o=none) (hb:Below w.heap.size w w'):Vb w o bad (.returned (.tuple #[.agg #[.int .i64 0,.int .i64 0,.slice none 0 0],bad])) w':=by
 subst h;exact ⟨rfl,hb⟩
theorem EG1 {w w':World} {o:Option Pg} {bad:Value} {k l n c:Nat} {cs:List ByteArray} {A:Option Addr} (h:o=some (k,l,cs)) (hn:cs.length=n) (hs:SS w' A n cs) (hb:Below w.heap.size w w'):Vb w o bad (.returned (.tuple #[.agg #[.int .i64 k,.int .i64 l,.slice A n c],.int .i64 0])) w':=by
 subst h hn;exact ⟨A,c,rfl,hs,hb⟩
theorem DB0 {s:ByteArray} {i:Nat} (h:Md s i=none):∀ n,i≤n→Md s n=none:=by
 intro n hn
 induction hn with
 | refl=>exact h
 | @step m _ ih=>rw [Md,ih];rfl
theorem CR0 {s:ByteArray} (hs:s.size≤1048576):∀ {i:Nat} {cs:List ByteArray},Md s i=some cs→cs.length=i∧Be cs≤2000*i
 | 0,cs,h=>by injection h with h;subst h;exact ⟨rfl,by simp [Be]⟩
 | i+1,cs,h=>by
   rw [Md] at h;obtain ⟨c0,h1,h2⟩:=Option.bind_eq_some_iff.1 h;obtain ⟨l1,l2⟩:=CR0 hs h1
   split at h2
   ·cases h2
   ·rename_i hc
    injection h2 with h2
    subst h2
    refine ⟨by simp [l1], ?_⟩
    rw [GB0];simp only [ByteArray.size_extract];omega
theorem EA0 {s:ByteArray} {i:Nat} {cs:List ByteArray} {a:Nat} (h:Md s i=some cs) (ha:Gs s.data.toList (12+2*i)=a) (hc:1024<a+2∨1024<a+2+Gs s.data.toList a):Md s (i+1)=none:=by
 subst ha;rw [Md,h,Option.bind_some,if_pos hc]
theorem NC0 {s:ByteArray} {i:Nat} {cs:List ByteArray} {a m:Nat} (h:Md s i=some cs) (ha:Gs s.data.toList (12+2*i)=a) (hm:Gs s.data.toList a=m) (h1:¬ 1024<a+2) (h2:¬ 1024<a+2+m):Md s (i+1)=some (cs++[s.extract (a+2) (a+2+m)]):=by
 subst ha hm
 rw [Md,h,Option.bind_some,if_neg (by rintro (h | h);exact h1 h;exact h2 h)]
def strs (l:List ByteArray):List Value:=l.map Value.string
theorem Np:(Tryz.prog.info? 9).map (fun i=>(i.zero,i.size,i.bytes))=some (some (.string ⟨#[]⟩),1,16):=by kernel_rfl
theorem SS.Dv {w:World} {base:Nat} {e:TypeId} {A:Option Addr} {n c:Nat} {l:List ByteArray} (h:w.ownsRow base e 1 (.slice A n c) n (strs l)):SS w A n l:=by
 have hl:l.length=n:=by have:=h.1;simp [strs] at this;exact this
 refine ⟨hl,fun hn=>?_⟩
 rcases h.2 with ⟨h0,h1⟩ | ⟨g,cap,cur,hv,hb,hgg,hnc,_⟩
 ·omega
 ·cases hv
  refine ⟨g,0,rfl,(Array.getElem?_eq_some_iff.1 hgg).1,fun i u hu=>?_⟩
  have:=h.cells (g:=g) rfl i (.string u) (by simp [strs,hu])
  rw [addr_add] at this;exact this
theorem own_below {w w':World} {base:Nat} {e:TypeId} {size:Nat} {v:Value} {n:Nat} {xs:List Value} (h:w.ownsRow base e size v n xs) (hb:Below w.heap.size w w'):w'.ownsRow base e size v n xs:=by
 refine ⟨h.1, ?_⟩
 rcases h.2 with h | ⟨g,cap,cur,hv,hbg,hg,r⟩
 ·exact .inl h
 ·exact .inr ⟨g,cap,cur,hv,hbg,(hb.block g (Array.getElem?_eq_some_iff.1 hg).1).trans hg,r⟩
theorem own_ne {w:World} {base:Nat} {e:TypeId} {size:Nat} {v:Value} {n:Nat} {xs:List Value} (h:w.ownsRow base e size v n xs) {g:Nat} (hg:g<base):some g≠v.ownBlock:=fun e=>by
 have:=(h.lt g e.symm).1;omega
theorem FI1 {t s:ByteArray} (h:¬ t=s):(t.toList == s.toList)=false:=by
 rw [Lib.toList_data,Lib.toList_data,beq_eq_false_iff_ne];intro e;exact h (ByteArray.ext (Array.toList_inj.1 e))
theorem SS.far {w:World} {A:Option Addr} {n:Nat} {l:List ByteArray} (h:SS w A n l) {p:Addr} (hp:∀ a,A=some a→a.block≠p.block) (u:Value):SS (w.setCell p u) A n l:=by
 refine ⟨h.1,fun hn=>?_⟩
 obtain ⟨g,o,e,hg,hc⟩:=h.2 hn
 refine ⟨g,o,e,by simpa using hg,fun i v hv=>(World.cell?_of_block (a:=⟨g,o+i,none⟩) (Below.heap_setCell w p u g (hp _ e))).trans (hc i v hv)⟩
theorem Ag (w:World) (o:Obj):Below w.heap.size w (w.alloc o):=(Below.refl _ _).alloc (Nat.le_refl _) _
def OL (w:World) (s:ByteArray) (g k l i:Nat) (wr:World):Prop :=
 ∃ cs A c,Md s i=some cs∧cs.length=i∧Be cs≤2000*i∧wr.ownsRow (g+1) 9 1 (.slice A i c) i (strs cs)∧Has wr g 114 #[.int .i64 k,.int .i64 l,.slice A i c] ∧
   Has wr w.heap.size 114 #[.int .i64 0,.int .i64 0,.slice none 0 0]∧Below w.heap.size w wr∧w.heap.size+1≤g
theorem own_base {w:World} {a b:Nat} {e:TypeId} {size:Nat} {v:Value} {n:Nat} {xs:List Value} (h:w.ownsRow a e size v n xs) (hb:b≤a):w.ownsRow b e size v n xs:=by
 refine ⟨h.1, ?_⟩
 rcases h.2 with h | ⟨g,cap,cur,hv,hbg,hg,r⟩
 ·exact .inl h
 ·exact .inr ⟨g,cap,cur,hv,by omega,hg,r⟩
def Xp (w:World) (o:Option Pg) (bad:Value) (e:Ending) (w':World):Prop :=
 match o with
 | none=>e = .returned (.tuple #[.agg #[.int .i64 0,.int .i64 0,.slice none 0 0],bad])∧Below w.heap.size w w'
 | some p=>∃ A c,e = .returned (.tuple #[.agg #[.int .i64 p.1,.int .i64 p.2.1,.slice A p.2.2.length c],.int .i64 0])∧w'.ownsRow (w.heap.size+1) 9 1 (.slice A p.2.2.length c) p.2.2.length (strs p.2.2)∧Below w.heap.size w w'
theorem Jt {w w':World} {o:Option Pg} {bad:Value} (h:o=none) (hb:Below w.heap.size w w'):Xp w o bad (.returned (.tuple #[.agg #[.int .i64 0,.int .i64 0,.slice none 0 0],bad])) w':=by
 subst h;exact ⟨rfl,hb⟩
theorem SF0 {w w':World} {o:Option Pg} {bad:Value} {k l n c:Nat} {cs:List ByteArray} {A:Option Addr} (h:o=some (k,l,cs)) (hn:cs.length=n) (hs:w'.ownsRow (w.heap.size+1) 9 1 (.slice A n c) n (strs cs)) (hb:Below w.heap.size w w'):Xp w o bad (.returned (.tuple #[.agg #[.int .i64 k,.int .i64 l,.slice A n c],.int .i64 0])) w':=by
 subst h hn;exact ⟨A,c,rfl,hs,hb⟩
theorem Zn (s:ByteArray) (hs:s.size≤1048576) (w:World):Calls Tryz.prog 124 #[.string s] w (Xp w (Hr s) (.int .i64 4)):=by
 have HR0:=Ac (Has.new w 114 #[.int .i64 0,.int .i64 0,.slice none 0 0]);have HB0:=Ac (Ag w (.cells #[.int .i64 0,.int .i64 0,.slice none 0 0] 114))
 by_cases h1:s.size=1024
 ·obtain ⟨x,hx⟩:∃ x,Ul s.data.toList 0=x:=⟨_,rfl⟩
  obtain ⟨y,hy⟩:∃ y,JJ0 (s.data.toList.drop 4)=y:=⟨_,rfl⟩;have lx:=RG0 s.data.toList 0;have ly:=NB0 (s.data.toList.drop 4)
  have T0:=Ac (fun w1=>LR0 s 0 (by omega) hs w1)
  have S0:=(fun w1=>PU0 (s.extract 4 1024) w1 (by simp;omega))
  rw [JA0 h1,hy] at S0;have HS0:=Ac S0;clear S0;rw [hx] at lx T0;rw [hy] at ly
  have w1:IntKind.u32.wrap (x:Int)=(x:Int):=by rw [IntKind.wrap_u32'];omega
  have szs:((s.size:Nat):Int)=1024:=by omega
  by_cases h2:x=y
  ·have g2:((x:Int) != (y:Int))=false:=by rw [h2];simp
   have H1:=Ac h1;have H2:=Ac (show Ul s.data.toList 0=JJ0 (s.data.toList.drop 4) by rw [hx,hy,h2])
   clear hx hy h2
   have s4:4<s.size:=by omega
   have s4':(4:Int)<(s.size:Int):=by omega
   have i4:=getD_byte s 4 s4;obtain ⟨k,hk⟩:∃ k,(s.data.toList.getD 4 0).toNat=k:=⟨_,rfl⟩;have bk:=Ci (s.data.toList.getD 4 0);rw [hk] at bk;rw [i4] at hk
   have w4:IntKind.i64.wrap (s[4].toNat:Int)=(k:Int):=by rw [hk];exact IntWalk.i64_in _ ⟨by omega,by omega⟩
   have w4':wrap64 (s[4].toNat:Int)=(k:Int):=by rw [hk];unfold wrap64;omega
   have HK:Hid ((s.data.toList.getD 4 0).toNat=k):=by rw [i4];exact hk
   clear i4;obtain ⟨l,hl⟩:∃ l,Ul s.data.toList 8=l:=⟨_,rfl⟩;have ll:=RG0 s.data.toList 8
   have T8:=Ac (fun w1=>LR0 s 8 (by omega) hs w1)
   rw [hl] at ll T8;obtain ⟨n,hn⟩:∃ n,Gs s.data.toList 6=n:=⟨_,rfl⟩;have ln:=Rn s.data.toList 6
   have T6:=Ac (fun w1=>Uc s 6 (by omega) hs w1)
   rw [hn] at ln T6;have HL:=Ac hl;have HN:=Ac hn;have HKK:=Ac hk;clear hl hn hk
   go_enter Tryz.func124,Tryz.ntmps124
   go_wp2_with fail
   refine Bz (_) (by kernel_rfl) (by kernel_rfl) (Cls.start _) ?_
   repeat
    first
     | go_big_quiet_skip
     | (go_big_quiet_want;(first | go_big_quiet_op | go_simp);first | go_big_quiet_on | (apply Exists.intro;refine ⟨fun w' hw'=>?_, ?_⟩;(·(first | (with_reducible exact rfl) | (first | (go_at_call 195;refine (T0.out _).mono ?_;rintro e w1 ⟨rfl,hb⟩;exact ⟨rfl,Cls.step hw' hb⟩) | (go_at_call 194;refine (HS0.out _).mono ?_;rintro e w1 ⟨rfl,rfl⟩;exact ⟨rfl,hw'⟩)) | (obtain ⟨hc,hf⟩:=hw'.facts;go_simp;first | done | (with_reducible exact rfl) | (with_reducible exact ⟨rfl,rfl⟩))));go_big_quiet_on))
   refine wpQuiet_nil ?_
   intro wq hq;have HR1:=Ac (HR0.out.Aj hq.bel);have HB1:=Ac (Am HB0.out hq.bel HB0.out.size);clear hq
   go_wp2_with fail
   refine Eo 7 (Cls (wq)) (prP [fun u _=>u = .string s,fun u _=>u = .int .u8 s[4].toNat,fun u _=>u = .int .i64 k,fun u _=>u = .string s,fun u _=>u = .int .i64 l,fun u _=>u = .agg #[.int .i64 k,.int .i64 l,.slice none 0 0],fun u w1=>∃ g,u = .pointer (some ⟨g,0,none⟩)∧Has w1 g 114 #[.int .i64 0,.int .i64 0,.slice none 0 0]∧w.heap.size+1≤g]) (by kernel_rfl) (by kernel_rfl) (by kernel_rfl) (fun _ _ hC hb=>Cls.step hC hb) ?hst (Cls.start _) ?hops ?hend
   case hst=>exact Yu _ ⟨Ip _,Ip _,Ip _,Ip _,Ip _,Ip _,fun u w1 w2 hb ⟨g,e,h,hg⟩=>⟨g,e,h.Aj hb,hg⟩,trivial⟩
   case hops =>
    intro us wx hus hC
    obtain ⟨u0,u1,u2,u3,u4,u5,u6,rfl⟩:∃ u0 u1 u2 u3 u4 u5 u6,us=[u0,u1,u2,u3,u4,u5,u6]:=by
     match us,hus with
     | [u0,u1,u2,u3,u4,u5,u6],_=>exact ⟨u0,u1,u2,u3,u4,u5,u6,rfl⟩
    clear hus;simp only [Bq,Act.put,List.take_succ_cons,List.take_zero,List.setIfInBounds_toArray,List.set_cons_zero,List.set_cons_succ]
    refine ⟨fun h=>?_,fun h=>?_,fun h=>?_,fun h=>?_,fun h=>?_,fun h=>?_,fun h=>?_,trivial⟩
    ·(clear h;refine Ae rfl ?_;go_simp;exact ⟨Below.refl _ _,rfl⟩)
    ·obtain rfl:=h 0 rfl
     (clear h;refine Ae rfl ?_;go_simp;exact ⟨Below.refl _ _,rfl⟩)
    ·obtain rfl:=h 1 rfl
     (clear h;refine Ae rfl ?_;go_simp;exact ⟨Below.refl _ _,rfl⟩)
    ·(clear h;refine Ae rfl ?_;go_simp;exact ⟨Below.refl _ _,rfl⟩)
    ·obtain rfl:=h 3 rfl
     (clear h;refine Ae rfl ?_;go_simp;refine (T8.out _).mono ?_;rintro e w1 ⟨rfl,hb⟩;exact ⟨_,rfl,hb,rfl⟩)
    ·obtain rfl:=h 2 rfl
     obtain rfl:=h 4 rfl
     (clear h;refine Ae rfl ?_;go_simp;exact ⟨Below.refl _ _,rfl⟩)
    ·have hle:=hC.bel.size
     have hlt:=HR1.out.lt
     clear h;refine Ae rfl ?_;go_simp;exact ⟨Ag _ _,_,rfl,Has.new _ _ _,by omega⟩
   case hend =>
    intro us wx hus hC
    obtain ⟨u0,u1,u2,u3,u4,u5,u6,rfl⟩:∃ u0 u1 u2 u3 u4 u5 u6,us=[u0,u1,u2,u3,u4,u5,u6]:=by
     match us,hus with
     | [u0,u1,u2,u3,u4,u5,u6],_=>exact ⟨u0,u1,u2,u3,u4,u5,u6,rfl⟩
    clear hus;intro hall;obtain ⟨h0,h1,h2,h3,h4,h5,h6,_⟩:=hall;obtain rfl:=h5;obtain ⟨g,rfl,hG,hg1⟩:=h6;have HR2:=Ac (HR1.out.Aj hC.bel);have HB2:=Ac (Am HB1.out hC.bel HB1.out.size);have HG2:=Ac hG;have gf:=hG.frozen;obtain ⟨g0,g1,g3⟩:=hG.cells3;have gz:=hG.lt
    have hgne:g≠w.heap.size:=by omega
    have HR3:=Ac (HR2.out.GC1 (g':=g) (x:=.int .i64 k) (y:=.int .i64 l) (z:=.slice none 0 0) (Ne.symm hgne));have HG3:=Ac (hG.FR1 (x:=.int .i64 k) (y:=.int .i64 l) (z:=.slice none 0 0))
    have HB3:=Ac (((HB2.out.setCell (p:=⟨g,0,none⟩) (by simp;omega) (.int .i64 k)).setCell (p:=⟨g,1,none⟩) (by simp;omega) (.int .i64 l)).setCell (p:=⟨g,2,none⟩) (by simp;omega) (.slice none 0 0))
    clear h0 h1 h2 h3 h4 hC hG HR1 HB1 T8 T0 HS0 HR2 HB2 HG2
    by_cases h3:1024<12+2*n
    ·have ANS:=Ac (MX0 (s:=s) (by rw [HN.out];exact h3))
     go_wp2_with (go_at_call 196;refine (T6.out _).mono ?_;rintro e w1 ⟨rfl,hb⟩;have HR4:=HR3.out.Aj hb;obtain ⟨r0,r1,r2⟩:=HR4.cells3;have rf:=HR4.frozen;have rz:=HR4.lt;have HB4:=Ac (Am HB3.out hb HB3.out.size);clear HR4)
     refine bodyPost_ret (v:=.tuple #[.agg #[.int .i64 0,.int .i64 0,.slice none 0 0],.int .i64 4]) (by simp [results,Tryz.results124,go_sem, *]) rfl ?_
     exact Jt ANS.out (((HB4.out.setCell (by simp) _).setCell (by simp) _).setCell (by simp) _)
    ·have HGO:Hid (Hr s=EV0 s n):=by
      have:=AD1 H1.out H2.out (by rw [HN.out];exact h3)
      rw [HN.out] at this;exact this
     go_wp2_with (go_at_call 196;refine (T6.out _).mono ?_;rintro e w1 ⟨rfl,hb⟩;have HR4:=Ac (HR3.out.Aj hb);have HG4:=Ac (HG3.out.Aj hb);have HB4:=Ac (Am HB3.out hb HB3.out.size))
     clear g0 g1 g3 gf gz hb
     go_loopw [37] (fun v37 wr=>∃ i:Nat,i≤n∧v37 = .int .i64 i∧OL w s g k l i wr) (fun v37 _=>n-(intOf v37).toNat)
     case atStart=>exact ⟨0,Nat.zero_le _,rfl,[],none,0,rfl,rfl,by simp [Be],World.ownsRow_nil _ _ _ _,HG4.out,HR4.out,HB4.out,hg1⟩
     case round =>
      clear HR4 HG4 HB4 HR3 HG3 HB3;obtain ⟨i,hi,rfl,cs,A,c,hrd,hlen,hus,hown,hG,hR,hbel,_⟩:=hrel;have HRD:=Ac hrd;have HLEN:=Ac hlen;have HUS:=Ac hus;have HO:=Ac hown;have HG:=Ac hG;have HR:=Ac hR;have HB:=Ac hbel;clear hrd hlen hus hown hG hR hbel
      by_cases hin:i<n
      ·obtain ⟨a,ha⟩:∃ a,Gs s.data.toList (12+2*i)=a:=⟨_,rfl⟩
       have la:=Rn s.data.toList (12+2*i)
       have T1:=(fun w1=>Uc s (12+2*i) (by omega) hs w1)
       rw [ha] at la T1
       rw [show ((12+2*i:Nat):Int)=12+2*(i:Int) by omega] at T1
       have HT1:=Ac T1;have HA:=Ac ha;clear T1 ha
       by_cases ha1:1024<a+2
       ·have ANS:Hid (Hr s=none):=by
         rw [HGO.out];unfold EV0;rw [DB0 (EA0 HRD.out HA.out (.inl ha1)) n hin];exact Ac rfl
        go_wp2_with (go_at_call 196;refine (HT1.out _).mono ?_;rintro e w1 ⟨rfl,hb⟩;have HR5:=HR.out.Aj hb;obtain ⟨r0,r1,r2⟩:=HR5.cells3;have rf:=HR5.frozen;have rz:=HR5.lt;have HB5:=Ac (Am HB.out hb HB.out.size);clear HR5)
        refine bodyPost_ret (v:=.tuple #[.agg #[.int .i64 0,.int .i64 0,.slice none 0 0],.int .i64 4]) (by simp [results,Tryz.results124,go_sem, *]) rfl ?_
        exact Jt ANS.out (((HB5.out.setCell (by simp) _).setCell (by simp) _).setCell (by simp) _)
       ·obtain ⟨m,hm⟩:∃ m,Gs s.data.toList a=m:=⟨_,rfl⟩
        have lm:=Rn s.data.toList a
        have T2:=(fun w1=>Uc s a (by omega) hs w1)
        rw [hm] at lm T2;have HT2:=Ac T2;have HM:=Ac hm;clear T2 hm
        by_cases ha2:1024<a+2+m
        ·have ANS:Hid (Hr s=none):=by
          rw [HGO.out];unfold EV0;rw [DB0 (EA0 HRD.out HA.out (.inr (by rw [HM.out];exact ha2))) n hin];exact Ac rfl
         go_wp2_with (first | (go_at_call 196;(with_reducible refine (HT1.out _).mono ?_);rintro e w1 ⟨rfl,hb⟩;have HR5:=Ac (HR.out.Aj hb);have HB5:=Ac (Am HB.out hb HB.out.size)) | (go_at_call 196;(with_reducible refine (HT2.out _).mono ?_);rintro e w2 ⟨rfl,hb2⟩;have HR6:=HR5.out.Aj hb2;obtain ⟨r0,r1,r2⟩:=HR6.cells3;have rf:=HR6.frozen;have rz:=HR6.lt;have HB6:=Ac (Am HB5.out hb2 HB5.out.size);clear HR6))
         refine bodyPost_ret (v:=.tuple #[.agg #[.int .i64 0,.int .i64 0,.slice none 0 0],.int .i64 4]) (by simp [results,Tryz.results124,go_sem, *]) rfl ?_
         exact Jt ANS.out (((HB6.out.setCell (by simp) _).setCell (by simp) _).setCell (by simp) _)
        ·have RD:=Ac (NC0 HRD.out HA.out HM.out ha1 ha2)
         go_wp2_with (first | (go_at_call 196;(with_reducible refine (HT1.out _).mono ?_);rintro e w1 ⟨rfl,hb⟩;have HR5:=Ac (HR.out.Aj hb);have HB5:=Ac (Am HB.out hb HB.out.size);have HG5:=Ac (HG.out.Aj hb)) | (go_at_call 196;(with_reducible refine (HT2.out _).mono ?_);rintro e w2 ⟨rfl,hb2⟩;have HR6:=Ac (HR5.out.Aj hb2);have HG6:=Ac (HG5.out.Aj hb2);have HB6:=Ac (Am HB5.out hb2 HB5.out.size)))
         have HO6:=Ac (own_below (own_below HO.out hb) hb2);obtain ⟨i0,hi0,hz0,hz1,hz2⟩:=info_parts Np;obtain ⟨g0,g1,g3⟩:=HG6.out.cells3;have gf:=HG6.out.frozen;have gz:=HG6.out.lt
         have hgne:some g≠Value.ownBlock (.slice A i c):=own_ne HO.out (by omega)
         obtain ⟨p,hp⟩:∃ p,a+2=p:=⟨_,rfl⟩;obtain ⟨q,hq⟩:∃ q,p+m=q:=⟨_,rfl⟩;rw [hp,hq] at RD
         have p1:(a:Int)+2=(p:Int):=by omega
         have p2:(p:Int)+(m:Int)=(q:Int):=by omega
         have p3:IntKind.i64.wrap (p:Int)=(p:Int):=IntWalk.i64_in _ ⟨by omega,by omega⟩
         have p4:IntKind.i64.wrap (q:Int)=(q:Int):=IntWalk.i64_in _ ⟨by omega,by omega⟩
         have p5:(p:Int)≤(q:Int):=by omega
         have p6:(q:Int)≤1024:=by omega
         have p7:p≤q:=by omega
         have p8:q≤s.size:=by omega
         go_region_law
          (first
            | (go_simp;go_at_call 196;(with_reducible refine (HT2.out _).mono ?_);rintro e w3 ⟨rfl,hb3⟩;have hz3:w2.heap.size≤w3.heap.size:=hb3.size;have HG7:=HG6.out.drew.Aj hb3;have gf7:=HG7.frozen;have gc7:=HG7.cells3.2.2;have gz7:=HG7.lt;have HO7:=own_below HO6.out.drew hb3)
            | (refine step_append_lies _ (by rfl) _ _ _ (by rfl) (g+1) 9 i0 _ 1 16 Tryz.underlying44 hi0 hz0 hz1 hz2 rfl (by omega) (.slice A i c) i (strs cs) (by rfl) (HO7.alloc _) _ 1 1 [.string (s.extract p q)] (by rfl) (by rfl) (World.news_of_block (heap_alloc_new _ _)) (by simp [Value.oneCell']) (by omega) (by simp only [maxLen];omega) (by omega) (by simp;omega) _ rfl ?_;intro gg cap w5 hown5 hgrow hat hlt;have HG5x:=(HG7.alloc _).grown hgrow hgne;have gf5:=HG5x.frozen;have gc5:=HG5x.cells3.2.2))
         all_goals
          have HOWN:=Ac hown5;have HGN:=Ac (HG5x.set 2 (.slice (some ⟨gg,0,none⟩) (i+1) cap))
          have HRN:=Ac ((((HR6.out.drew.Aj hb3).alloc (.cells #[.string (s.extract p q)] 9)).grown hgrow (own_ne HO.out (by omega))).far (p:=⟨g,2,none⟩) (by simp;omega) (.slice (some ⟨gg,0,none⟩) (i+1) cap))
          have HBN:=Ac ((((Am HB6.out.drew hb3 HB6.out.size).alloc (Nat.le_trans HB6.out.size hz3) (.cells #[.string (s.extract p q)] 9)).grown hgrow (Nat.le_trans (Nat.le_trans HB6.out.size hz3) (by simp)) (fun k hk=>Nat.le_trans (by omega) (HO.out.lt k hk).1)).setCell (p:=⟨g,2,none⟩) (by simp;omega) (.slice (some ⟨gg,0,none⟩) (i+1) cap))
          clear hown5 hgrow HG5x HG7 HO7 hat hlt hb3 gf5 gc5 gc7 gf7
          go_wp2_with fail
          go_roundw
          case rel =>
           refine ⟨i+1,by omega,by simp,cs++[s.extract p q],some ⟨gg,0,none⟩,cap,RD.out,by simp [HLEN.out],(CR0 hs RD.out).2, ?_,HGN.out,HRN.out,HBN.out,by omega⟩
           rw [show strs (cs++[s.extract p q])=strs cs++[.string (s.extract p q)] by simp [strs]]
           exact ownsRow_setCell_below HOWN.out (by simp) _
          case measure=>simp [intOf];omega
      ·obtain rfl:n=i:=by omega
       have SSW:=SS.Dv HO.out
       have TS:=Qe (k:Int) (l:Int) A n c cs wr SSW (by omega) (by have:=HUS.out;omega)
       obtain ⟨g0,g1,g3⟩:=HG.out.cells3;have gf:=HG.out.frozen;have gz:=HG.out.lt
       have FIN:Hid (Hr s=fin s k l cs):=by
        rw [HGO.out];unfold EV0;rw [HRD.out,Option.bind_some,HL.out];congr 1
       obtain ⟨e,he⟩:∃ e,Oc (k:Int) (l:Int) cs=e:=⟨_,rfl⟩;obtain ⟨t,ht⟩:∃ t,Dc (k:Int) (l:Int) cs=t:=⟨_,rfl⟩;unfold fin at FIN;rw [he,ht] at TS FIN;have TS:=Ac TS;clear he ht
       by_cases e0:e=0
       ·subst e0
        by_cases ts:t=s
        ·subst ts
         have ANS:Hid (Hr t=some (k,l,cs)):=by rw [FIN.out,if_pos ⟨rfl,rfl⟩];exact Ac rfl
         go_wp2_with (go_at_call 122;refine TS.out.mono ?_;rintro e w1 ⟨rfl,hb⟩;have HR5:=HR.out.Aj hb;have HG5:=HG.out.Aj hb;obtain ⟨r0,r1,r2⟩:=HR5.cells3;have rf:=HR5.frozen;have rz:=HR5.lt;obtain ⟨q0,q1,q2⟩:=HG5.cells3;have qz:=HG5.lt;have HB5:=Ac (Am HB.out hb HB.out.size);have HS5:=Ac (SSW.keep hb);clear HR5 HG5)
         refine bodyPost_ret (v:=.tuple #[.agg #[.int .i64 k,.int .i64 l,.slice A n c],.int .i64 0]) (by simp [results,Tryz.results124,go_sem, *]) rfl ?_
         have far:∀ o a,A=some a→a.block≠(⟨w.heap.size,o,none⟩:Addr).block:=fun o a e=>by subst e;have:=(HO.out.lt a.block rfl).1;simp;omega
         exact SF0 ANS.out HLEN.out (own_base (ownsRow_setCell_below (ownsRow_setCell_below (ownsRow_setCell_below (own_below HO.out hb) (by simp;omega) _) (by simp;omega) _) (by simp;omega) _) (by omega)) (((HB5.out.setCell (by simp) _).setCell (by simp) _).setCell (by simp) _)
        ·have ANS:Hid (Hr s=none):=by rw [FIN.out,if_neg (fun h=>ts h.2)];exact Ac rfl
         have g6:=FI1 ts
         go_wp2_with (go_at_call 122;refine TS.out.mono ?_;rintro e w1 ⟨rfl,hb⟩;have HR5:=HR.out.Aj hb;obtain ⟨r0,r1,r2⟩:=HR5.cells3;have rf:=HR5.frozen;have rz:=HR5.lt;have HB5:=Ac (Am HB.out hb HB.out.size);clear HR5)
         refine bodyPost_ret (v:=.tuple #[.agg #[.int .i64 0,.int .i64 0,.slice none 0 0],.int .i64 4]) (by simp [results,Tryz.results124,go_sem, *]) rfl ?_
         exact Jt ANS.out (((HB5.out.setCell (by simp) _).setCell (by simp) _).setCell (by simp) _)
       ·have ANS:Hid (Hr s=none):=by rw [FIN.out,if_neg (fun h=>e0 h.1)];exact Ac rfl
        have g5:(e != (0:Int))=true:=by simp [e0]
        go_wp2_with (go_at_call 122;refine TS.out.mono ?_;rintro e w1 ⟨rfl,hb⟩;have HR5:=HR.out.Aj hb;obtain ⟨r0,r1,r2⟩:=HR5.cells3;have rf:=HR5.frozen;have rz:=HR5.lt;have HB5:=Ac (Am HB.out hb HB.out.size);clear HR5)
        refine bodyPost_ret (v:=.tuple #[.agg #[.int .i64 0,.int .i64 0,.slice none 0 0],.int .i64 4]) (by simp [results,Tryz.results124,go_sem, *]) rfl ?_
        exact Jt ANS.out (((HB5.out.setCell (by simp) _).setCell (by simp) _).setCell (by simp) _)
  ·have ANS:=Ac (VH0 (s:=s) (by rw [hx,hy];exact h2))
   have g2:((x:Int) != (y:Int))=true:=by simp;omega
   clear hx hy;obtain ⟨r0,r1,r2⟩:=HR0.out.cells3
   go_enter Tryz.func124,Tryz.ntmps124
   go_wp2_with fail
   refine Bz (_) (by kernel_rfl) (by kernel_rfl) (Cls.start _) ?_
   repeat
    first
     | go_big_quiet_skip
     | (go_big_quiet_want;(first | go_big_quiet_op | go_simp);first | go_big_quiet_on | (apply Exists.intro;refine ⟨fun w' hw'=>?_, ?_⟩;(·(first | (with_reducible exact rfl) | (first | (go_at_call 195;refine (T0.out _).mono ?_;rintro e w1 ⟨rfl,hb⟩;exact ⟨rfl,Cls.step hw' hb⟩) | (go_at_call 194;refine (HS0.out _).mono ?_;rintro e w1 ⟨rfl,rfl⟩;exact ⟨rfl,hw'⟩)) | (obtain ⟨hc,hf⟩:=hw'.facts;go_simp;first | done | (with_reducible exact rfl) | (with_reducible exact ⟨rfl,rfl⟩))));go_big_quiet_on))
   refine wpQuiet_nil ?_
   intro wq hq;have HR5:=HR0.out.Aj hq.bel;obtain ⟨r0,r1,r2⟩:=HR5.cells3;have rf:=HR5.frozen;have rz:=HR5.lt;have HB5:=Ac (Am HB0.out hq.bel HB0.out.size)
   go_wp2_with fail
   refine bodyPost_ret (v:=.tuple #[.agg #[.int .i64 0,.int .i64 0,.slice none 0 0],.int .i64 4]) (by simp [results,Tryz.results124,go_sem, *]) rfl ?_
   exact Jt ANS.out (((HB5.out.setCell (by simp) _).setCell (by simp) _).setCell (by simp) _)
 ·have ANS:=Ac (SB0 h1)
  have g2:((s.size:Int) != 1024)=true:=by simp;omega
  go_enter Tryz.func124,Tryz.ntmps124
  go_wp2_with fail
  refine Bz (_) (by kernel_rfl) (by kernel_rfl) (Cls.start _) ?_
  repeat
   first
    | go_big_quiet_skip
    | (go_big_quiet_want;(first | go_big_quiet_op | go_simp);first | go_big_quiet_on | (apply Exists.intro;refine ⟨fun w' hw'=>?_, ?_⟩;(·(first | (with_reducible exact rfl) | (fail) | (obtain ⟨hc,hf⟩:=hw'.facts;go_simp;first | done | (with_reducible exact rfl) | (with_reducible exact ⟨rfl,rfl⟩))));go_big_quiet_on))
  refine wpQuiet_nil ?_
  intro wq hq;have HR5:=HR0.out.Aj hq.bel;obtain ⟨r0,r1,r2⟩:=HR5.cells3;have rf:=HR5.frozen;have rz:=HR5.lt;have HB5:=Ac (Am HB0.out hq.bel HB0.out.size)
  go_wp2_with fail
  refine bodyPost_ret (v:=.tuple #[.agg #[.int .i64 0,.int .i64 0,.slice none 0 0],.int .i64 4]) (by simp [results,Tryz.results124,go_sem, *]) rfl ?_
  exact Jt ANS.out (((HB5.out.setCell (by simp) _).setCell (by simp) _).setCell (by simp) _)
theorem DI0 (s:ByteArray) (hs:s.size≤1048576) (w:World):Calls Tryz.prog 124 #[.string s] w (Vb w (Hr s) (.int .i64 4)):=by
 refine (Zn s hs w).mono fun e w' h=>?_
 unfold Xp at h;unfold Vb
 split at h
 ·exact h
 ·obtain ⟨A,c,h1,h2,h3⟩:=h
  exact ⟨A,c,h1,SS.Dv h2,h3⟩
end Go.Proofs.YtjihboddejaelaaGreat
namespace Go.Proofs.YtjihboddejaelaaGreat
open Go.RowKit Go.BigFrame
section
variable {P:Pl} {k:Nat}
theorem WI0 (h:Fit P.L.D (k+1)) (f:Pf):Fit (P.Ht f).1.L.D k:=by
 unfold Pl.Ht
 split
 ·split <;> exact GK0 h _ _
 ·exact h.less (by omega)
theorem QG0 (h:Fit P.L.D (k+1)):Fit P.room.1.L.D k:=by
 unfold Pl.room
 split
 ·exact h.less (by omega)
 ·split
  ·exact h.less (by omega)
  ·exact WI0 h _
theorem CC0 (h:Fit P.L.D (k+1)) (x:Int):Fit (P.get x).1.L.D k:=by
 unfold Pl.get
 split
 ·split
  ·exact h.less (by omega)
  ·split
   ·unfold Pl.fetch
    split <;> exact QG0 h
   ·exact QG0 h
 ·exact h.less (by omega)
theorem UV0 (h:Fit P.L.D (k+1)) (x:Int) (s:ByteArray):Fit (P.put x s).1.L.D k:=by
 unfold Pl.put
 split
 ·exact CC0 h x
 ·exact CC0 h x
theorem OA0 (h:Fit P.L.D (k+2)) (n:Nat):Fit (P.Cf n).1.L.D k:=by
 have h1:Fit (P.get 0).1.L.D (k+1):=CC0 h 0;unfold Pl.Cf
 split
 ·split
  ·exact h1.less (by omega)
  ·split <;> exact UV0 h1 _ _
 ·exact h1.less (by omega)
theorem FX0 (ok:P.ok):P.Pv.s.size≤1024:=by
 unfold Pl.Pv
 rcases List.eq_nil_or_concat P.ring with h | ⟨F,f,h⟩
 ·rw [h];exact Nat.zero_le _
 ·rw [h]
  rw [List.concat_eq_append] at h ⊢
  have:(F++[f]).getLastD pf0=f:=by simp
  rw [this]
  exact Nat.le_of_eq (ok.size f (by rw [h];exact List.mem_append_right _ (List.mem_singleton.2 rfl)))
theorem XF0 (ok:P.ok) (x:Int) {s:ByteArray} (hs:s.size=1024):(P.put x s).1.ok:=by
 have go:=AF0 ok x
 by_cases h0:(P.get x).2=0
 ·obtain ⟨F0,f,hF,hfx,i0,i1⟩:=Uy ok h0
  rw [put_eq h0 hF hfx];have nm:=go.names;have sz:=go.size;have fl:=go.full;have pg:=go.pages;rw [hF] at nm sz fl pg
  refine ⟨go.log, ?_,fun q hq=>?_,fun q hq=>?_,go.most, ?_,go.few,go.link, ?_,fun y hy=>?_⟩
  ·show ((F0++[_]).map _).Nodup
   simpa using nm
  ·rcases List.mem_append.1 hq with hq | hq
   ·exact pg q (List.mem_append_left _ hq)
   ·rw [List.mem_singleton.1 hq];exact pg f (List.mem_append_right _ (List.mem_singleton.2 rfl))
  ·rcases List.mem_append.1 hq with hq | hq
   ·exact sz q (List.mem_append_left _ hq)
   ·rw [List.mem_singleton.1 hq];exact hs
  ·show (F0++[_]).length≤_
   simpa using fl
  ·show (Vj _ _).Nodup
   unfold Vj
   split
   ·exact go.turnd
   ·rename_i hn;exact List.nodup_cons.2 ⟨hn,go.turnd⟩
  ·have hy2:y∈Vj f.n (P.get x).1.turned:=hy
   unfold Vj at hy2
   split at hy2
   ·exact go.turns y hy2
   ·rcases List.mem_cons.1 hy2 with rfl | hy2
    ·exact pg f (List.mem_append_right _ (List.mem_singleton.2 rfl))
    ·exact go.turns y hy2
 ·unfold Pl.put
  rw [if_neg h0];exact go
theorem Pl.ok.GP0 (ok:P.ok) {n:Nat} (hn:n≤2147483647):({ P with free:=n }:Pl).ok :=
 ⟨ok.log,ok.names,ok.pages,ok.size,ok.most,ok.full,ok.few,hn,ok.turnd,ok.turns⟩
theorem RZ0 (ok:P.ok) {n:Nat} (hn:n≤2147483647):(P.Cf n).1.ok:=by
 unfold Pl.Cf
 split
 ·split
  ·exact AF0 ok 0
  ·rename_i pg hpg
   have hv:=Ju.1 hpg
   have hp:=XF0 (AF0 ok 0) 0 (s:=Dc 4 n pg.2.2) (Og (K:=4) (by omega) (by omega) hn hv.2.2.2.1)
   split
   ·exact hp.GP0 hn
   ·exact hp
 ·exact AF0 ok 0
end
theorem SS.nil (w:World):SS w none 0 []:=⟨rfl,fun h=>absurd h (by omega)⟩
theorem FO0:∀ cs:List ByteArray,4*cs.length≤Be cs
 | []=>Nat.zero_le _
 | c :: cs=>by
   have:=FO0 cs;simp only [Be,List.map_cons,List.sum_cons,List.length_cons] at this ⊢;omega
theorem LF0 (n:Nat) (A:Option Addr) (k c:Nat) (cs:List ByteArray) (w:World) (h:SS w A k cs) (hu:Be cs≤1012) :
 Calls Tryz.prog 41 #[.int .i64 n,.slice A k c] w fun e w'=>e = .returned (.string (Dc 4 n cs))∧Below w.heap.size w w':=by
 have hk:k≤4194304:=by have:=FO0 cs;have:=h.1;omega
 have SL:=Ac (Qe 4 n A k c cs w h hk (by omega))
 obtain ⟨T,hT⟩:∃ T,Dc 4 n cs=T:=⟨_,rfl⟩;obtain ⟨E,hE⟩:∃ T,Oc 4 n cs=T:=⟨_,rfl⟩;rw [hT,hE] at SL;rw [hT];clear h hu hT hE hk
 go_enter Tryz.func41,Tryz.ntmps41
 go_wp2_with (go_at_call 122;refine SL.out.mono ?_;rintro en w1 ⟨rfl,hb⟩)
 go_ret
 exact ⟨rfl,hb⟩
theorem AN0 (b:List (Option Nat)) (gd g m1 m2 p e h t:Nat) (A:List Nat) (P:Pl) (n:Nat) (hn:n≤2147483647) (w:World) (H:PM w b gd g m1 m2 p e h t A P) (ok:P.ok) (fit:Fit P.L.D 2) :
 Calls Tryz.prog 127 #[.pointer (some ⟨p,0,none⟩),.int .i64 n] w (Yg (allB b g m1 m2 p e h t A) w gd g p e h t (P.Cf n).1 (P.Cf n).2):=by
 have RD:=Ac (DZ0 b gd g m1 m2 p e h t A P 0 ⟨by omega,by omega⟩ w H ok (fit.less (by omega)))
 have GOK:=Ac (AF0 ok 0);have GF:=Ac (CC0 (k:=1) fit 0)
 have HS:Hid (P.Cf n=if (P.get 0).2=0 then (match Hr (P.get 0).1.Pv.s with
  | none=>((P.get 0).1,4)
  | some pg=>if ((P.get 0).1.put 0 (Dc 4 n pg.2.2)).2=0 then ({ ((P.get 0).1.put 0 (Dc 4 n pg.2.2)).1 with free:=n },0) else (P.get 0).1.put 0 (Dc 4 n pg.2.2)) else P.get 0):=rfl
 have TX:Hid (P.text 0=if (P.get 0).2=0 then (P.get 0).1.Pv.s else ⟨#[]⟩):=rfl
 obtain ⟨T,hT⟩:∃ T,P.text 0=T:=⟨_,rfl⟩;obtain ⟨Q,hQ⟩:∃ Q,(P.get 0).1=Q:=⟨_,rfl⟩;obtain ⟨E,hE⟩:∃ E,(P.get 0).2=E:=⟨_,rfl⟩
 have hPQ:P.get 0=(Q,E):=by rw [← hQ,← hE]
 rw [hT,hQ,hE] at RD TX;rw [hQ] at GOK GF;rw [hPQ] at HS;dsimp only at HS;clear H ok fit hT hQ hE hPQ
 by_cases hE0:E=0
 ·subst hE0
  have HT:=Ac (TX.out.trans (if_pos rfl));have HS2:=Ac (HS.out.trans (if_pos rfl));rw [← HT.out] at HS2
  have TZ:T.size≤1048576:=by rw [HT.out];exact Nat.le_trans (FX0 GOK.out) (by omega)
  have OP:=Ac (fun w=>DI0 T TZ w)
  clear HS TX TZ
  cases ho:Hr T with
  | none =>
    have OP2:Hid (∀ w,Calls Tryz.prog 124 #[.string T] w fun e w'=>e = .returned (.tuple #[.agg #[.int .i64 0,.int .i64 0,.slice none 0 0],.int .i64 4])∧Below w.heap.size w w'):=fun w=>by
     have:=OP.out w;rw [ho] at this;exact this
    have HS3:Hid (P.Cf n=(Q,4)):=by have:=HS2.out;rw [ho] at this;exact this
    clear OP HS2 ho
    go_enter Tryz.func127,Tryz.ntmps127
    go_wp2_with (first
     | (go_at_call 70;refine RD.out.mono ?_;rintro en w1 ⟨rfl,b1,n1,n2,A1,hpm,ht⟩)
     | (go_at_call 124;refine (OP2.out _).mono ?_;rintro en w2 ⟨rfl,hb2⟩))
    go_ret
    rw [HS3.out];have hb3:=hb2.alloc hb2.size (.cells #[.int .i64 0,.int .i64 0,.slice none 0 0] 114);exact ⟨rfl,b1,n1,n2,A1,hpm.below hb3,ht.trans (Turn.below _ hb3)⟩
  | some pg =>
    obtain ⟨k,l,cs⟩:=pg;have hv:=Ju.1 ho;have hu:Be cs≤1012:=hv.2.2.2.1
    have OP2:Hid (∀ w,Calls Tryz.prog 124 #[.string T] w fun e w'=>∃ A c,e = .returned (.tuple #[.agg #[.int .i64 k,.int .i64 l,.slice A cs.length c],.int .i64 0])∧SS w' A cs.length cs∧Below w.heap.size w w'):=fun w=>by
     have:=OP.out w;rw [ho] at this;exact this
    have HS3:Hid (P.Cf n=if (Q.put 0 (Dc 4 n cs)).2=0 then ({ (Q.put 0 (Dc 4 n cs)).1 with free:=n },0) else Q.put 0 (Dc 4 n cs)):=by have:=HS2.out;rw [ho] at this;exact this
    have MT:=Ac (fun A c w (hs:SS w A cs.length cs)=>LF0 n A cs.length c cs w hs hu)
    have PT:=Ac (fun b1 n1 n2 A1 w1 (hq:PM w1 b1 gd g n1 n2 p e h t A1 Q)=>BF0 b1 gd g n1 n2 p e h t A1 Q 0 ⟨by omega,by omega⟩ (Dc 4 n cs) w1 hq GOK.out GF.out)
    obtain ⟨S,hS⟩:∃ S,Dc 4 n cs=S:=⟨_,rfl⟩;rw [hS] at HS3 MT PT;obtain ⟨R,hR⟩:∃ R,(Q.put 0 S).1=R:=⟨_,rfl⟩;obtain ⟨E,hE⟩:∃ E,(Q.put 0 S).2=E:=⟨_,rfl⟩
    have hPQ:Q.put 0 S=(R,E):=by rw [← hR,← hE]
    rw [hPQ] at HS3 PT;dsimp only at HS3 PT;clear OP HS2 ho hv hu hS hR hE hPQ
    by_cases hE0:E=0
    ·subst hE0
     have HS4:=Ac (HS3.out.trans (if_pos rfl));clear HS3
     go_enter Tryz.func127,Tryz.ntmps127
     go_wp2_with (first
      | (go_at_call 70;refine RD.out.mono ?_;rintro en w1 ⟨rfl,b1,n1,n2,A1,hpm,ht⟩;have HM:=Ac hpm;have HT1:=Ac ht;clear hpm ht)
      | (go_at_call 124;refine (OP2.out _).mono ?_;rintro en w2 ⟨A2,c2,rfl,hss,hb2⟩;have HSS:=Ac (hss.keep (((Below.refl _ _).alloc (Nat.le_refl _) (.cells #[.int .i64 k,.int .i64 l,.slice A2 cs.length c2] 114))));have HB2:=Ac (hb2.alloc hb2.size (.cells #[.int .i64 k,.int .i64 l,.slice A2 cs.length c2] 114));clear hss)
      | (go_at_call 41;refine (MT.out _ _ _ HSS.out).mono ?_;rintro en w3 ⟨rfl,hb3⟩;have HB3:=Ac (Am HB2.out hb3 HB2.out.size))
      | (go_at_call 128;refine (PT.out _ _ _ _ _ (HM.out.below HB3.out)).mono ?_;rintro en w4 ⟨rfl,b4,n4,n5,A4,hpm4,ht4⟩;have y5:w4.cell? ⟨p,5,none⟩=some (.int .i64 R.free):=hpm4.has.cell 5;have yf:=hpm4.has.frozen))
     go_ret
     rw [HS4.out]
     obtain ⟨s1,s2⟩:=hpm4.set (P':={ R with free:=n }) 5 (.int .i64 n) rfl rfl rfl rfl
     exact ⟨rfl,b4,n4,n5,A4,s1,((HT1.out.trans (Turn.below _ HB3.out)).trans ht4).trans s2⟩
    ·have HS4:=Ac (HS3.out.trans (if_neg hE0))
     clear HS3
     go_enter Tryz.func127,Tryz.ntmps127
     go_wp2_with (first
      | (go_at_call 70;refine RD.out.mono ?_;rintro en w1 ⟨rfl,b1,n1,n2,A1,hpm,ht⟩;have HM:=Ac hpm;have HT1:=Ac ht;clear hpm ht)
      | (go_at_call 124;refine (OP2.out _).mono ?_;rintro en w2 ⟨A2,c2,rfl,hss,hb2⟩;have HSS:=Ac (hss.keep (((Below.refl _ _).alloc (Nat.le_refl _) (.cells #[.int .i64 k,.int .i64 l,.slice A2 cs.length c2] 114))));have HB2:=Ac (hb2.alloc hb2.size (.cells #[.int .i64 k,.int .i64 l,.slice A2 cs.length c2] 114));clear hss)
      | (go_at_call 41;refine (MT.out _ _ _ HSS.out).mono ?_;rintro en w3 ⟨rfl,hb3⟩;have HB3:=Ac (Am HB2.out hb3 HB2.out.size))
      | (go_at_call 128;refine (PT.out _ _ _ _ _ (HM.out.below HB3.out)).mono ?_;rintro en w4 ⟨rfl,b4,n4,n5,A4,hpm4,ht4⟩))
     go_ret
     rw [HS4.out];exact ⟨rfl,b4,n4,n5,A4,hpm4,(HT1.out.trans (Turn.below _ HB3.out)).trans ht4⟩
 ·have HS2:=Ac (HS.out.trans (if_neg hE0))
  clear HS TX
  go_enter Tryz.func127,Tryz.ntmps127
  go_wp2_with (go_at_call 70;refine RD.out.mono ?_;rintro en w1 ⟨rfl,b1,n1,n2,A1,hpm,ht⟩)
  go_ret
  rw [HS2.out];exact ⟨rfl,b1,n1,n2,A1,hpm,ht⟩
theorem KQ0 (l:Nat) (w:World):Calls Tryz.prog 122 #[.agg #[.int .i64 3,.int .i64 l,.slice none 0 0]] w fun e w'=>e = .returned (.tuple #[.string (Dc 3 l []),.int .i64 (Oc 3 l [])])∧Below w.heap.size w w' :=
 Qe 3 l none 0 0 [] w (SS.nil w) (by omega) (by decide)
theorem FB0 (w:World):Calls Tryz.prog 122 #[.agg #[.int .i64 3,.int .i64 0,.slice none 0 0]] w fun e w'=>e = .returned (.tuple #[.string Gu,.int .i64 (Oc 3 0 [])])∧Below w.heap.size w w':=KQ0 0 w
theorem SJ0:Gu.size=1024:=Og (K:=3) (L:=0) (by omega) (by omega) (by omega) (by decide)
section
variable {P:Pl}
theorem CY1 (ok:P.ok) (h:¬ 67108864<(P.pages+1)*1024):P.grow.1.ok:=by
 obtain ⟨r1,r2⟩:=ED0 ok;obtain ⟨s1,s2,s3,s4,s5⟩:=Kv (P:=P);unfold Pl.grow
 split
 ·rename_i h0
  have r3:=r2 h0;have hpg:=r1.pages
  have ok2:({ P.room.1 with pages:=P.room.1.pages+1 }:Pl).ok :=
   ⟨r1.log,r1.names,fun f hf=>Nat.lt_succ_of_lt (r1.pages f hf),r1.size,r1.most,r1.full,by show P.room.1.pages+1≤65536;omega,r1.link,r1.turnd,fun x hx=>Nat.lt_succ_of_lt (r1.turns x hx)⟩
  have ok3:=PI0 ok2 (f:=⟨P.room.1.pages,Gu,0,true⟩) (fun q hq=>by have h4:=r1.pages q hq;show (q.n:Int)≠(P.room.1.pages:Int);omega) (Nat.lt_succ_self _) SJ0 (by show P.room.1.ring.length<P.room.1.most;omega) P.room.1.hits P.room.1.misses
  refine ⟨ok3.log,ok3.names,ok3.pages,ok3.size,ok3.most,ok3.full,ok3.few,ok3.link, ?_,fun y hy=>?_⟩
  ·show (Vj _ _).Nodup
   unfold Vj
   split
   ·exact r1.turnd
   ·rename_i hn;exact List.nodup_cons.2 ⟨hn,r1.turnd⟩
  ·have hy2:y∈Vj P.room.1.pages P.room.1.turned:=hy
   show y<P.room.1.pages+1
   unfold Vj at hy2
   split at hy2
   ·have:=r1.turns y hy2;omega
   ·rcases List.mem_cons.1 hy2 with rfl | hy2
    ·omega
    ·have:=r1.turns y hy2;omega
 ·exact r1
end
def EJ0 (B:List (Option Nat)) (w:World) (gd g p e h t:Nat) (P:Pl) (n:Nat) (E:Int) (en:Ending) (w':World):Prop :=
 en = .returned (.tuple #[.int .i64 n,.int .i64 E])∧∃ b' m1' m2' A',PM w' b' gd g m1' m2' p e h t A' P∧Turn B (allB b' g m1' m2' p e h t A') w w'
def Pl.Nz (P:Pl):Nat:=if P.alloc.2=0 then P.Ah else 0
theorem WB0 (b:List (Option Nat)) (gd g m1 m2 p e h t:Nat) (A:List Nat) (P:Pl) (w:World) (H:PM w b gd g m1 m2 p e h t A P) (ok:P.ok) (fit:Fit P.L.D 1) (hf:P.free=0) :
 Calls Tryz.prog 45 #[.pointer (some ⟨p,0,none⟩)] w (EJ0 (allB b g m1 m2 p e h t A) w gd g p e h t P.alloc.1 P.Nz P.alloc.2):=by
 have HP:=Ac H
 have x5:w.cell? ⟨p,5,none⟩=some (.int .i64 0):=by have:w.cell? ⟨p,5,none⟩=some (.int .i64 P.free):=H.has.cell 5;rw [hf] at this;exact this
 have x4:w.cell? ⟨p,4,none⟩=some (.int .i64 P.pages):=H.has.cell 4
 have pb1:(P.pages:Int)≤65536:=by have:=ok.few;omega
 have HA:Hid (P.alloc=if 67108864<(P.pages+1)*1024 then (P,8) else P.grow):=if_pos hf
 have HT:Hid (P.Nz=if P.alloc.2=0 then P.pages else 0):=by
  have:P.Ah=P.pages:=if_pos hf;unfold Pl.Nz;rw [this];exact Ac rfl
 by_cases hbig:67108864<(P.pages+1)*1024
 ·have HA2:=Ac (HA.out.trans (if_pos hbig))
  have HT2:Hid (P.Nz=0):=by have:=HT.out;rw [HA2.out] at this;exact this
  have g1:(67108864:Int)<((P.pages:Int)+1)*1024:=by omega
  rw [HA2.out,HT2.out];clear H ok fit hf HA HT hbig
  go_enter Tryz.func45,Tryz.ntmps45
  go_wp2_with fail
  go_ret2
  exact ⟨rfl,b,m1,m2,A,HP.out,Turn.refl _ _⟩
 ·have HA2:=Ac (HA.out.trans (if_neg hbig))
  have g1:¬ (67108864:Int)<((P.pages:Int)+1)*1024:=by omega
  have RM:=Ac (KK0 b gd g m1 m2 p e h t A P w H ok fit);have RO:=Ac (ED0 ok);have RS:=Ac (Kv (P:=P))
  have HG:Hid (P.grow=if P.room.2=0 then ({ P.room.1 with pages:=P.room.1.pages+1,ring:=P.room.1.ring++[⟨P.room.1.pages,Gu,0,true⟩],turned:=Vj P.room.1.pages P.room.1.turned },0) else P.room):=rfl
  obtain ⟨R,hR⟩:∃ R,P.room.1=R:=⟨_,rfl⟩;obtain ⟨E,hE⟩:∃ E,P.room.2=E:=⟨_,rfl⟩
  have hPR:P.room=(R,E):=by rw [← hR,← hE]
  rw [hPR] at RM RO RS HG;dsimp only at RM RO RS HG;clear H ok fit hf HA hR hE hPR hbig
  by_cases hE0:E=0
  ·subst hE0
   have HG2:=Ac (HG.out.trans (if_pos rfl));have SB:=Ac FB0
   have WN:=Ac (wfI (x:=(R.pages:Int)) (by omega) (by have:=RO.out.1.few;omega))
   have rb1:(R.pages:Int)≤65536:=by have:=RO.out.1.few;omega
   obtain ⟨S,hS⟩:∃ S,Gu=S:=⟨_,rfl⟩;rw [hS] at HG2 SB;obtain ⟨E3,hE3⟩:∃ E,Oc 3 0 []=E:=⟨_,rfl⟩;rw [hE3] at SB
   have TL:=Ac (Nat.le_trans (Rx _ _ RO.out.1.turnd RO.out.1.turns) (Nat.le_trans RO.out.1.few (by decide:65536≤100000000)))
   have HT2:Hid (P.Nz=R.pages):=by have:=HT.out;rw [HA2.out,HG2.out] at this;exact this.trans RS.out.2.1.symm
   have LST:Hid (∀ (w1:World) b1 n1 n2 A1,PM w1 b1 gd g n1 n2 p e h t A1 { R with pages:=R.pages+1 } →
    Calls Tryz.prog 126 #[Cc p,Cc w1.heap.size] (w1.alloc (.cells #[.int .i64 (R.pages:Int),.string S,.int .i64 0,.bool true,.pointer none,.pointer none] 166))
     (fun en w'=>en = .returned (Cc w1.heap.size)∧PM w' b1 gd g n1 n2 p e h t (A1++[w1.heap.size]) { R with pages:=R.pages+1,ring:=R.ring++[⟨R.pages,S,0,true⟩] }∧Turn (allB b1 g n1 n2 p e h t A1) (allB b1 g n1 n2 p e h t (A1++[w1.heap.size])) w1 w')):=fun w1 b1 n1 n2 A1 hq=>by
    have hb:Below w1.heap.size w1 (w1.alloc (.cells #[.int .i64 (R.pages:Int),.string S,.int .i64 0,.bool true,.pointer none,.pointer none] 166)):=(Below.refl _ _).alloc (Nat.le_refl _) _
    refine (OY0 (f:=⟨R.pages,S,0,true⟩) (hq.below hb) (Has.new w1 _ _) (fun hk=>?_) (fun q hq2=>?_) ?_ ?_).mono ?_
    ·have:=hq.lt _ hk;omega
    ·have h4:=RO.out.1.pages q hq2;show (q.n:Int)≠(R.pages:Int);omega
    ·show R.ring.length≤1000
     have:=RO.out.1.full;have:=RO.out.1.most;omega
    ·show R.pages≤4294967296
     have:=RO.out.1.few;omega
    ·rintro en w' ⟨he,h1,h2⟩
     exact ⟨he,h1,(BG0 hb (a:=w1.heap.size) (Nat.le_refl _)).trans h2⟩
   clear hS hE3 HG HT RS;rw [HA2.out,HG2.out,HT2.out]
   go_enter Tryz.func45,Tryz.ntmps45
   go_upto_region 11 with (first
    | (go_at_call 125;refine RM.out.mono ?_;rintro e2 w1 ⟨rfl,b1,n1,n2,A1,hpm,ht⟩;have HM:=Ac hpm;have HT1:=Ac ht;have y4:w1.cell? ⟨p,4,none⟩=some (.int .i64 R.pages):=hpm.has.cell 4;have yf:=hpm.has.frozen;clear hpm ht)
    | (go_at_call 122;have S4:=Ac (HM.out.set (P':={ R with pages:=R.pages+1 }) 4 (.int .i64 ((R.pages:Int)+1)) rfl rfl rfl rfl);refine (SB.out _).mono ?_;rintro e3 w3 ⟨rfl,hb3⟩;have HM3:=Ac (S4.out.1.below hb3);have HT3:=Ac ((HT1.out.trans S4.out.2).trans (Turn.below _ hb3));clear S4 hb3)
    | (go_at_call 126;refine (LST.out _ _ _ _ _ HM3.out).mono ?_;rintro e4 w4 ⟨rfl,hpm4,ht4⟩))
   have HM4:=Ac hpm4;have HT4:=Ac (HT3.out.trans ht4);have y6:w4.cell? ⟨p,6,none⟩=some (.map (some t)):=hpm4.has.cell 6;have MT:=Ac hpm4.turned;clear hpm4 ht4 y4 yf
   go_wp2_with (at_mapUpdate;refine Xe _ rfl _ _ _ 104 3 rfl Tryz.underlying104 t _ _ rfl MT.out TL.out (R.pages:Int) rfl WN.out _ 1 rfl [] (GN0 1 (by omega)) ?_;intro w5 hm5 hg5)
   go_ret2
   obtain ⟨s5,t5⟩:=HM4.out.tell (n:=R.pages) hm5 hg5;exact ⟨rfl,b1,n1,n2,_,s5,HT4.out.trans t5⟩
  ·have HG2:=Ac (HG.out.trans (if_neg hE0))
   have HT2:Hid (P.Nz=0):=by have:=HT.out;rw [HA2.out,HG2.out,if_neg hE0] at this;exact this
   rw [HA2.out,HG2.out,HT2.out];clear HG HT RO RS HA2;have d1:decide ((67108864:Int)<((P.pages:Int)+1)*1024)=false:=decide_eq_false g1;clear g1
   go_enter Tryz.func45,Tryz.ntmps45
   go_wp2_with (go_at_call 125;refine RM.out.mono ?_;rintro e2 w1 ⟨rfl,b1,n1,n2,A1,hpm,ht⟩)
   go_ret2
   exact ⟨rfl,b1,n1,n2,A1,hpm,ht⟩
theorem TG0 (b:List (Option Nat)) (gd g m1 m2 p e h t:Nat) (A:List Nat) (P:Pl) (w:World) (H:PM w b gd g m1 m2 p e h t A P) (ok:P.ok) (fit:Fit P.L.D 4) (hf:¬ P.free=0) :
 Calls Tryz.prog 45 #[.pointer (some ⟨p,0,none⟩)] w (EJ0 (allB b g m1 m2 p e h t A) w gd g p e h t P.alloc.1 P.Nz P.alloc.2):=by
 have fb:(P.free:Int)≤2147483647:=by have:=ok.link;omega
 have RD:=Ac (DZ0 b gd g m1 m2 p e h t A P P.free ⟨by omega,by omega⟩ w H ok (fit.less (by omega)))
 have GOK:=Ac (AF0 ok P.free);have GF:=Ac (CC0 (k:=3) fit P.free)
 have HA:Hid (P.alloc=if (P.get P.free).2=0 then (match Hr (P.get P.free).1.Pv.s with
  | none=>((P.get P.free).1,4)
  | some pg=>if ((P.get P.free).1.Cf pg.2.1).2=0 then ((P.get P.free).1.Cf pg.2.1).1.put P.free Gu else (P.get P.free).1.Cf pg.2.1) else P.get P.free):=if_neg hf
 have HT:Hid (P.Nz=if P.alloc.2=0 then P.free else 0):=by
  have:P.Ah=P.free:=if_neg hf;unfold Pl.Nz;rw [this];exact Ac rfl
 have TX:Hid (P.text P.free=if (P.get P.free).2=0 then (P.get P.free).1.Pv.s else ⟨#[]⟩):=rfl
 have x5:w.cell? ⟨p,5,none⟩=some (.int .i64 P.free):=H.has.cell 5
 have f0:((P.free:Int) == 0)=false:=by rw [beq_eq_false_iff_ne];omega
 obtain ⟨T,hT⟩:∃ T,P.text P.free=T:=⟨_,rfl⟩;obtain ⟨Q,hQ⟩:∃ Q,(P.get P.free).1=Q:=⟨_,rfl⟩;obtain ⟨E,hE⟩:∃ E,(P.get P.free).2=E:=⟨_,rfl⟩
 have hPQ:P.get P.free=(Q,E):=by rw [← hQ,← hE]
 rw [hT,hQ,hE] at RD TX;rw [hQ] at GOK GF;rw [hPQ] at HA;dsimp only at HA;obtain ⟨N,hN⟩:∃ N,P.free=N:=⟨_,rfl⟩;rw [hN] at RD HA HT x5 f0 fb;clear H ok fit hT hQ hE hPQ hf hN
 by_cases hE0:E=0
 ·subst hE0
  have HXT:=Ac (TX.out.trans (if_pos rfl));have HA2:=Ac (HA.out.trans (if_pos rfl));rw [← HXT.out] at HA2
  have TZ:T.size≤1048576:=by rw [HXT.out];exact Nat.le_trans (FX0 GOK.out) (by omega)
  have OP:=Ac (fun w=>DI0 T TZ w)
  clear HA TX TZ
  cases ho:Hr T with
  | none =>
    have OP2:Hid (∀ w,Calls Tryz.prog 124 #[.string T] w fun e w'=>e = .returned (.tuple #[.agg #[.int .i64 0,.int .i64 0,.slice none 0 0],.int .i64 4])∧Below w.heap.size w w'):=fun w=>by
     have:=OP.out w;rw [ho] at this;exact this
    have HA3:Hid (P.alloc=(Q,4)):=by have:=HA2.out;rw [ho] at this;exact this
    have HT2:Hid (P.Nz=0):=by have:=HT.out;rw [HA3.out] at this;exact this
    rw [HA3.out,HT2.out];clear OP HA2 ho
    go_enter Tryz.func45,Tryz.ntmps45
    go_wp2_with (first
     | (go_at_call 70;refine RD.out.mono ?_;rintro en w1 ⟨rfl,b1,n1,n2,A1,hpm,ht⟩;have HM:=Ac hpm;have HT1:=Ac ht;clear hpm ht)
     | (go_at_call 124;refine (OP2.out _).mono ?_;rintro en w2 ⟨rfl,hb2⟩))
    go_ret2
    have hb3:=hb2.alloc hb2.size (.cells #[.int .i64 0,.int .i64 0,.slice none 0 0] 114);exact ⟨rfl,b1,n1,n2,A1,HM.out.below hb3,HT1.out.trans (Turn.below _ hb3)⟩
  | some pg =>
    obtain ⟨k,l,cs⟩:=pg;have hv:=Ju.1 ho;have hl:l≤2147483647:=hv.2.2.1
    have OP2:Hid (∀ w,Calls Tryz.prog 124 #[.string T] w fun e w'=>∃ A c,e = .returned (.tuple #[.agg #[.int .i64 k,.int .i64 l,.slice A cs.length c],.int .i64 0])∧SS w' A cs.length cs∧Below w.heap.size w w'):=fun w=>by
     have:=OP.out w;rw [ho] at this;exact this
    have HA3:Hid (P.alloc=if (Q.Cf l).2=0 then (Q.Cf l).1.put N Gu else Q.Cf l):=by have:=HA2.out;rw [ho] at this;exact this
    have SF:=Ac (fun b1 n1 n2 A1 w1 (hq:PM w1 b1 gd g n1 n2 p e h t A1 Q)=>AN0 b1 gd g n1 n2 p e h t A1 Q l hl w1 hq GOK.out (GF.out.less (by omega)))
    have SOK:=Ac (RZ0 GOK.out hl);have SFF:=Ac (OA0 (k:=1) GF.out l);obtain ⟨R,hR⟩:∃ R,(Q.Cf l).1=R:=⟨_,rfl⟩;obtain ⟨E2,hE2⟩:∃ E,(Q.Cf l).2=E:=⟨_,rfl⟩
    have hPQ:Q.Cf l=(R,E2):=by rw [← hR,← hE2]
    rw [hPQ] at HA3 SF SOK SFF;dsimp only at HA3 SF SOK SFF;clear OP HA2 ho hv hl hR hE2 hPQ
    by_cases hE0:E2=0
    ·subst hE0
     have HA4:=Ac (HA3.out.trans (if_pos rfl));have SB:=Ac FB0;obtain ⟨E3,hE3⟩:∃ E,Oc 3 0 []=E:=⟨_,rfl⟩;obtain ⟨S,hS⟩:∃ S,Gu=S:=⟨_,rfl⟩;rw [hE3,hS] at SB;rw [hS] at HA4
     have PT:=Ac (fun b1 n1 n2 A1 w1 (hq:PM w1 b1 gd g n1 n2 p e h t A1 R)=>BF0 b1 gd g n1 n2 p e h t A1 R N ⟨by omega,by omega⟩ S w1 hq SOK.out SFF.out)
     obtain ⟨M,hM⟩:∃ R',(R.put N S).1=R':=⟨_,rfl⟩;obtain ⟨E4,hE4⟩:∃ E,(R.put N S).2=E:=⟨_,rfl⟩
     have hPQ:R.put N S=(M,E4):=by rw [← hM,← hE4]
     rw [hPQ] at HA4 PT;dsimp only at PT;have HT2:=HT.out;rw [HA4.out] at HT2;dsimp only at HT2;clear HA3 hE3 hS hM hE4 hPQ HT;rw [HA4.out]
     by_cases hE0:E4=0
     ·subst hE0
      have HT3:=Ac (HT2.trans (if_pos rfl));rw [HT3.out];clear HT2
      go_enter Tryz.func45,Tryz.ntmps45
      go_wp2_with (first | (go_at_call 70;refine RD.out.mono ?_;rintro en w1 ⟨rfl,b1,n1,n2,A1,hpm,ht⟩;have HM:=Ac hpm;have HT1:=Ac ht;clear hpm ht) | (go_at_call 124;refine (OP2.out _).mono ?_;rintro en w2 ⟨A2,c2,rfl,hss,hb2⟩;have HB2:=Ac (hb2.alloc hb2.size (.cells #[.int .i64 k,.int .i64 l,.slice A2 cs.length c2] 114));clear hss) | (go_at_call 127;refine (SF.out _ _ _ _ _ (HM.out.below HB2.out)).mono ?_;rintro en w3 ⟨rfl,b3,n3,n4,A3,hpm3,ht3⟩;have HM3:=Ac hpm3;have HT3:=Ac ((HT1.out.trans (Turn.below _ HB2.out)).trans ht3);clear hpm3 ht3) | (go_at_call 122;refine (SB.out _).mono ?_;rintro e3 w4 ⟨rfl,hb4⟩) | (go_at_call 128;refine (PT.out _ _ _ _ _ (HM3.out.below hb4)).mono ?_;rintro en w5 ⟨rfl,b5,n5,n6,A5,hpm5,ht5⟩))
      go_ret2
      exact ⟨rfl,b5,n5,n6,A5,hpm5,(HT3.out.trans (Turn.below _ hb4)).trans ht5⟩
     ·have HT3:=Ac (HT2.trans (if_neg hE0))
      rw [HT3.out];clear HT2
      go_enter Tryz.func45,Tryz.ntmps45
      go_wp2_with (first | (go_at_call 70;refine RD.out.mono ?_;rintro en w1 ⟨rfl,b1,n1,n2,A1,hpm,ht⟩;have HM:=Ac hpm;have HT1:=Ac ht;clear hpm ht) | (go_at_call 124;refine (OP2.out _).mono ?_;rintro en w2 ⟨A2,c2,rfl,hss,hb2⟩;have HB2:=Ac (hb2.alloc hb2.size (.cells #[.int .i64 k,.int .i64 l,.slice A2 cs.length c2] 114));clear hss) | (go_at_call 127;refine (SF.out _ _ _ _ _ (HM.out.below HB2.out)).mono ?_;rintro en w3 ⟨rfl,b3,n3,n4,A3,hpm3,ht3⟩;have HM3:=Ac hpm3;have HT3:=Ac ((HT1.out.trans (Turn.below _ HB2.out)).trans ht3);clear hpm3 ht3) | (go_at_call 122;refine (SB.out _).mono ?_;rintro e3 w4 ⟨rfl,hb4⟩) | (go_at_call 128;refine (PT.out _ _ _ _ _ (HM3.out.below hb4)).mono ?_;rintro en w5 ⟨rfl,b5,n5,n6,A5,hpm5,ht5⟩))
      go_ret2
      exact ⟨rfl,b5,n5,n6,A5,hpm5,(HT3.out.trans (Turn.below _ hb4)).trans ht5⟩
    ·have HA4:=Ac (HA3.out.trans (if_neg hE0))
     have HT2:Hid (P.Nz=0):=by have:=HT.out;rw [HA4.out,if_neg hE0] at this;exact this
     rw [HA4.out,HT2.out];clear HA3 HT
     go_enter Tryz.func45,Tryz.ntmps45
     go_wp2_with (first | (go_at_call 70;refine RD.out.mono ?_;rintro en w1 ⟨rfl,b1,n1,n2,A1,hpm,ht⟩;have HM:=Ac hpm;have HT1:=Ac ht;clear hpm ht) | (go_at_call 124;refine (OP2.out _).mono ?_;rintro en w2 ⟨A2,c2,rfl,hss,hb2⟩;have HB2:=Ac (hb2.alloc hb2.size (.cells #[.int .i64 k,.int .i64 l,.slice A2 cs.length c2] 114));clear hss) | (go_at_call 127;refine (SF.out _ _ _ _ _ (HM.out.below HB2.out)).mono ?_;rintro en w3 ⟨rfl,b3,n3,n4,A3,hpm3,ht3⟩;have HM3:=Ac hpm3;have HT3:=Ac ((HT1.out.trans (Turn.below _ HB2.out)).trans ht3);clear hpm3 ht3))
     go_ret2
     exact ⟨rfl,b3,n3,n4,A3,HM3.out,HT3.out⟩
 ·have HA2:=Ac (HA.out.trans (if_neg hE0))
  have HT2:Hid (P.Nz=0):=by have:=HT.out;rw [HA2.out,if_neg hE0] at this;exact this
  rw [HA2.out,HT2.out];clear HA TX HT
  go_enter Tryz.func45,Tryz.ntmps45
  go_wp2_with (go_at_call 70;refine RD.out.mono ?_;rintro en w1 ⟨rfl,b1,n1,n2,A1,hpm,ht⟩;have HM:=Ac hpm;have HT1:=Ac ht;clear hpm ht)
  go_ret2
  exact ⟨rfl,b1,n1,n2,A1,HM.out,HT1.out⟩
theorem TT0 (b:List (Option Nat)) (gd g m1 m2 p e h t:Nat) (A:List Nat) (P:Pl) (w:World) (H:PM w b gd g m1 m2 p e h t A P) (ok:P.ok) (fit:Fit P.L.D 4) :
 Calls Tryz.prog 45 #[.pointer (some ⟨p,0,none⟩)] w (EJ0 (allB b g m1 m2 p e h t A) w gd g p e h t P.alloc.1 P.Nz P.alloc.2):=by
 by_cases hf:P.free=0
 ·exact WB0 b gd g m1 m2 p e h t A P w H ok (fit.less (by omega)) hf
 ·exact TG0 b gd g m1 m2 p e h t A P w H ok fit hf
theorem XI0 (b:List (Option Nat)) (gd g m1 m2 p e h t:Nat) (A:List Nat) (P:Pl) (x:Int) (hx:KH0 x) (w:World) (H:PM w b gd g m1 m2 p e h t A P) (ok:P.ok) (fit:Fit P.L.D 3) :
 Calls Tryz.prog 80 #[.pointer (some ⟨p,0,none⟩),.int .i64 x] w (Yg (allB b g m1 m2 p e h t A) w gd g p e h t (P.IR0 x).1 (P.IR0 x).2):=by
 have HP:=Ac H
 by_cases hx0:x=0
 ·have HE:Hid (P.IR0 x=(P,1)):=if_pos hx0
  rw [HE.out];subst hx0;clear H ok fit
  go_enter Tryz.func80,Tryz.ntmps80
  go_wp2_with fail
  go_ret
  exact ⟨rfl,b,m1,m2,A,HP.out,Turn.refl _ _⟩
 ·have HE:Hid (P.IR0 x=if (P.put x (Dc 3 P.free [])).2=0 then (P.put x (Dc 3 P.free [])).1.Cf x.toNat else P.put x (Dc 3 P.free [])):=if_neg hx0
  have e0:(x == 0)=false:=beq_eq_false_iff_ne.2 hx0;have x5:w.cell? ⟨p,5,none⟩=some (.int .i64 P.free):=H.has.cell 5
  have SB:=Ac (fun w=>KQ0 P.free w)
  have SS1:(Dc 3 P.free []).size=1024:=Og (K:=3) (by omega) (by omega) ok.link (by decide)
  obtain ⟨S,hS⟩:∃ S,Dc 3 P.free []=S:=⟨_,rfl⟩;obtain ⟨E3,hE3⟩:∃ E,Oc 3 P.free []=E:=⟨_,rfl⟩;rw [hS] at HE SB SS1;rw [hE3] at SB
  have PT:=Ac (fun w1 (hq:PM w1 b gd g m1 m2 p e h t A P)=>BF0 b gd g m1 m2 p e h t A P x hx S w1 hq ok (fit.less (by omega)))
  have POK:=Ac (XF0 ok x SS1);have PF:=Ac (UV0 (k:=2) fit x S);have FEW:=Ac ok.few
  have IN:Hid ((P.put x S).2=0→0≤x∧x<(P.pages:Int)):=fun h2=>by
   have h3:(P.get x).2=0:=by
    unfold Pl.put at h2
    by_cases h4:(P.get x).2=0
    ·exact h4
    ·rw [if_neg h4] at h2;exact h2
   obtain ⟨F0,f,hF,hfx,i0,i1⟩:=Uy ok h3;exact ⟨i0,i1⟩
  obtain ⟨R,hR⟩:∃ R',(P.put x S).1=R':=⟨_,rfl⟩;obtain ⟨E,hE⟩:∃ E,(P.put x S).2=E:=⟨_,rfl⟩
  have hPQ:P.put x S=(R,E):=by rw [← hR,← hE]
  rw [hPQ] at HE PT POK PF IN;dsimp only at HE PT POK PF IN;clear H ok fit hx0 hS hE3 hR hE hPQ SS1
  by_cases hE0:E=0
  ·subst hE0
   have HE2:=Ac (HE.out.trans (if_pos rfl))
   obtain ⟨n,rfl⟩:∃ n:Nat,x=n:=⟨x.toNat,by have:=IN.out rfl;omega⟩
   have SF:=Ac (fun b1 n1 n2 A1 w1 (hq:PM w1 b1 gd g n1 n2 p e h t A1 R)=>AN0 b1 gd g n1 n2 p e h t A1 R n (by have:=IN.out rfl;have:=FEW.out;omega) w1 hq POK.out PF.out)
   rw [HE2.out,Int.toNat_natCast];clear HE IN hx
   go_enter Tryz.func80,Tryz.ntmps80
   go_wp2_with (first
    | (go_at_call 122;refine (SB.out _).mono ?_;rintro e3 w1 ⟨rfl,hb1⟩;have HB1:=Ac hb1)
    | (go_at_call 128;refine (PT.out _ (HP.out.below HB1.out)).mono ?_;rintro en w2 ⟨rfl,b2,n1,n2,A2,hpm,ht⟩)
    | (go_at_call 127;refine (SF.out _ _ _ _ _ hpm).mono ?_;rintro en w3 ⟨rfl,b3,n3,n4,A3,hpm3,ht3⟩))
   go_ret
   exact ⟨rfl,b3,n3,n4,A3,hpm3,((Turn.below _ HB1.out).trans ht).trans ht3⟩
  ·have HE2:=Ac (HE.out.trans (if_neg hE0))
   rw [HE2.out];clear HE IN
   go_enter Tryz.func80,Tryz.ntmps80
   go_wp2_with (first
    | (go_at_call 122;refine (SB.out _).mono ?_;rintro e3 w1 ⟨rfl,hb1⟩;have HB1:=Ac hb1)
    | (go_at_call 128;refine (PT.out _ (HP.out.below HB1.out)).mono ?_;rintro en w2 ⟨rfl,b2,n1,n2,A2,hpm,ht⟩))
   go_ret
   exact ⟨rfl,b2,n1,n2,A2,hpm,(Turn.below _ HB1.out).trans ht⟩
open Go.Maps
section
variable {w w':World} {b b':List (Option Nat)} {gd g m1 m2 m1' m2' p e h t:Nat} {A A1 A2:List Nat} {a:Nat} {P:Pl}
end
end Go.Proofs.YtjihboddejaelaaGreat
namespace Go.Proofs.YtjihboddejaelaaGreat
open Go.RowKit Go.BigFrame
def Pl.fresh (L:Lg) (most:Nat):Pl:=⟨L,most,[],L.pages,0,[],0,0,0⟩
def Pl.Oj (L:Lg) (most:Nat):Pl×Int :=
 if L.rw.Ej 0=0 then
  match Hr (L.rw.Gy 0) with
  | none=>(Pl.fresh L most,4)
  | some pg=>({ Pl.fresh L most with free:=pg.2.1 },0)
 else (Pl.fresh L most,L.rw.Ej 0)
theorem CW1 (w:World):(Instr.makeMap 103 none).run Tryz.prog w = .ok (.map (some w.heap.size)) (w.alloc (.map #[] 0)):=rfl
theorem DL1 (w:World):(Instr.makeMap 104 none).run Tryz.prog w = .ok (.map (some w.heap.size)) (w.alloc (.map #[] 0)):=rfl
def BX1 (g most:Nat):Array Value:=#[Cc g,.int .i64 most,.pointer none,.map none,.int .i64 0,.int .i64 0,.map none,.int .i64 0,.int .i64 0,.int .i64 0]
def RW0 (w:World) (b:List (Option Nat)) (gd g m1 m2 p:Nat) (P:Pl) (E:Int) (en:Ending) (w':World):Prop :=
 en = .returned (.int .i64 E)∧∃ e h t,PM w' b gd g m1 m2 p e h t [] P∧Turn (some p :: (b++lb g m1 m2)) (allB b g m1 m2 p e h t []) w w'
theorem Turn.more {b b':List (Option Nat)} {w w':World} (h:Turn b b' w w') {a:Nat} (ha:w.heap.size≤a):Turn b (some a :: b') w w' :=
 ⟨h.os,h.tape,h.output,h.size,h.block,fun k hk=>by
   rcases List.mem_cons.1 hk with hk | hk
   ·cases hk;exact .inr ha
   ·exact h.new k hk⟩
theorem PM.made {w:World} {b:List (Option Nat)} {gd g m1 m2 p n0 n1 n2:Nat} {L:Lg} {most:Nat} (hl:LR w b gd g m1 m2 L.rw) (hp:Has w p 106 #[Cc g,.int .i64 most,Cc n0,.map (some n1),.int .i64 0,.int .i64 0,.map (some n2),.int .i64 0,.int .i64 0,.int .i64 0])
 (h0:Has w n0 166 (frC pf0 n0 n0)) (h1:GM Tm w n1 (fun _=>none) 0) (h2:GM (plainElem Tryz.prog 3) w n2 (fun _=>none) 0) (hp0:p≠n0) (hn:n1≠n2) (hd:QR0 (b++lb g m1 m2) (pb p n0 n1 n2 [])) :
 PM w b gd g m1 m2 p n0 n1 n2 [] { Pl.fresh L most with pages:=0 } :=
 ⟨hl,hp,⟨by simp,h0,rfl⟩,h1.congr (fun x=>rfl),h2.congr (fun x=>by unfold Tv;rw [if_neg];rintro ⟨m,hm,_⟩;cases hm),by simpa using hp0,hn,hd⟩
theorem DF0 (b:List (Option Nat)) (gd g m1 m2 p:Nat) (L:Lg) (most:Nat) (w:World) (hl:LR w b gd g m1 m2 L.rw) (ok:L.ok) (hp:Has w p 106 (BX1 g most)) (hoff:some p∉b++lb g m1 m2) :
 Calls Tryz.prog 42 #[.pointer (some ⟨p,0,none⟩)] w (RW0 w b gd g m1 m2 p (Pl.Oj L most).1 (Pl.Oj L most).2):=by
 have HL:=Ac hl;have HP:=Ac hp;have OFF:=Ac hoff;have plt:=hp.lt;have PLT:=Ac hp.lt;have hm1:=CW1;have hm2:=DL1;have x2:w.cell? ⟨p,2,none⟩=some (.pointer none):=hp.cell 2;have xf:=hp.frozen;have OK:=Ac ok;clear hl hp hoff ok
 go_enter Tryz.func42,Tryz.ntmps42
 go_upto_region 2 with fail
 obtain ⟨n0,hn0⟩:∃ n,w.heap.size=n:=⟨_,rfl⟩;have P1:=Ac ((HP.out.set 2 (Cc n0)).alloc (.cells #[.int .i64 0,.string ⟨#[]⟩,.int .i64 0,.bool false,.pointer none,.pointer none] 166));have N1:=Ac (Has.new (w.setCell ⟨p,2,none⟩ (Cc n0)) 166 #[.int .i64 0,.string ⟨#[]⟩,.int .i64 0,.bool false,.pointer none,.pointer none])
 have e0:(w.setCell ⟨p,2,none⟩ (Cc n0)).heap.size=n0:=by rw [← hn0];simp
 rw [e0] at N1;have T1:=Ac ((Ez [some p] p 2 (Cc n0) w (List.mem_singleton.2 rfl)).trans (Turn.below [some p] ((Below.refl _ (w.setCell ⟨p,2,none⟩ (Cc n0))).alloc (Nat.le_refl _) (.cells #[.int .i64 0,.string ⟨#[]⟩,.int .i64 0,.bool false,.pointer none,.pointer none] 166))))
 have Z1:Hid (((w.setCell ⟨p,2,none⟩ (Cc n0)).alloc (.cells #[.int .i64 0,.string ⟨#[]⟩,.int .i64 0,.bool false,.pointer none,.pointer none] 166)).heap.size=n0+1):=Ac (by rw [World.size_alloc,e0])
 rw [hn0] at plt;simp only [hn0];have HN0:=Ac hn0;clear hn0 x2 xf e0
 generalize (w.setCell ⟨p,2,none⟩ (Cc n0)).alloc (.cells #[.int .i64 0,.string ⟨#[]⟩,.int .i64 0,.bool false,.pointer none,.pointer none] 166)=W at *
 have y2:W.cell? ⟨p,2,none⟩=some (Cc n0):=P1.out.cell 2;have z4:W.cell? ⟨n0,4,none⟩=some (.pointer none):=N1.out.cell 4;have z5:W.cell? ⟨n0,5,none⟩=some (.pointer none):=N1.out.cell 5;have zf:=N1.out.frozen
 go_region
 have pn:¬ p=n0:=by omega
 have P2:=Ac ((P1.out.far (p:=⟨n0,4,none⟩) pn (Cc n0)).far (p:=⟨n0,5,none⟩) pn (Cc n0));have N2:Hid (Has ((W.setCell ⟨n0,4,none⟩ (Cc n0)).setCell ⟨n0,5,none⟩ (Cc n0)) n0 166 (frC pf0 n0 n0)):=(N1.out.set 4 (Cc n0)).set 5 (Cc n0);have T2:=Ac (((T1.out.more (a:=n0) (Nat.le_of_eq HN0.out)).trans (Ez _ n0 4 (Cc n0) W (List.mem_cons_self ..))).trans (Ez _ n0 5 (Cc n0) _ (List.mem_cons_self ..)))
 have Z2:Hid (((W.setCell ⟨n0,4,none⟩ (Cc n0)).setCell ⟨n0,5,none⟩ (Cc n0)).heap.size=n0+1):=Ac (by simp;exact Z1.out)
 clear y2 z4 z5 zf pn
 generalize (W.setCell ⟨n0,4,none⟩ (Cc n0)).setCell ⟨n0,5,none⟩ (Cc n0)=V at *
 have v3:V.cell? ⟨p,3,none⟩=some (.map none):=P2.out.cell 3;have v6:V.cell? ⟨p,6,none⟩=some (.map none):=P2.out.cell 6;have vf:=P2.out.frozen;have vz:=P2.out.lt
 go_upto_region 5 with fail
 obtain ⟨n1,hn1⟩:∃ n,V.heap.size=n:=⟨_,rfl⟩;simp only [hn1];obtain ⟨n2,hn2⟩:∃ n,n1+1=n:=⟨_,rfl⟩;simp only [hn2]
 have e1:n0+1=n1:=by rw [← hn1];exact Z2.out.symm
 have P3:=(P2.out.set 3 (.map (some n1))).set 6 (.map (some n2))
 have N3:=(N2.out.far (p:=⟨p,3,none⟩) (by show ¬ n0=p;omega) (.map (some n1))).far (p:=⟨p,6,none⟩) (by show ¬ n0=p;omega) (.map (some n2))
 have L3:=(HL.out.far T2.out (fun k hk h2=>OFF.out (List.mem_singleton.1 hk ▸ h2))).far ((Ez [some p] p 3 (.map (some n1)) V (List.mem_singleton.2 rfl)).trans (Ez [some p] p 6 (.map (some n2)) _ (List.mem_singleton.2 rfl))) (fun k hk h2=>OFF.out (List.mem_singleton.1 hk ▸ h2))
 have T3:=(T2.out.trans (Ez _ p 3 (.map (some n1)) V (List.mem_cons_of_mem _ (List.mem_singleton.2 rfl)))).trans (Ez _ p 6 (.map (some n2)) _ (List.mem_cons_of_mem _ (List.mem_singleton.2 rfl)))
 have z3:((V.setCell ⟨p,3,none⟩ (.map (some n1))).setCell ⟨p,6,none⟩ (.map (some n2))).heap.size=n1:=by simp [hn1]
 clear v3 v6 vf vz hn1
 generalize (V.setCell ⟨p,3,none⟩ (.map (some n1))).setCell ⟨p,6,none⟩ (.map (some n2))=U at *
 have M1:=(GM.made Tm U).below ((Below.refl _ _).alloc (Nat.le_refl _) (.map #[] 0));have M2:=GM.made (plainElem Tryz.prog 3) (U.alloc (.map #[] 0));rw [World.size_alloc,z3,hn2] at M2;rw [z3] at M1
 have hU:Below U.heap.size U ((U.alloc (.map #[] 0)).alloc (.map #[] 0)):=((Below.refl _ _).alloc (Nat.le_refl _) _).alloc (by simp) _
 have hlt:=fun (k:Nat) (hk:some k∈b++lb g m1 m2)=>HL.out.lt hk
 have PMX:PM ((U.alloc (.map #[] 0)).alloc (.map #[] 0)) b gd g m1 m2 p n0 n1 n2 [] { Pl.fresh L most with pages:=0 }:=by
  refine PM.made (L3.below hU) (P3.Aj hU) (N3.Aj hU) M1 M2 (by omega) (by omega) (fun k h1 h2=>?_)
  have h4:=hlt k h1;have h5:=HN0.out
  rcases Ia.1 h2 with rfl | rfl | rfl | h2
  ·exact OFF.out h1
  ·omega
  ·omega
  ·have:k=n0:=by simpa using h2
   omega
 have TX:Turn [some p] (pb p n0 n1 n2 []) w ((U.alloc (.map #[] 0)).alloc (.map #[] 0)):=by
  have h1:=T3.trans (Turn.below _ hU)
  refine ⟨h1.os,h1.tape,h1.output,h1.size,h1.block,fun k hk=>?_⟩
  have h5:=HN0.out
  rcases Ia.1 hk with rfl | rfl | rfl | h2
  ·exact .inl (List.mem_singleton.2 rfl)
  ·exact .inr (by omega)
  ·exact .inr (by omega)
  ·have:k=n0:=by simpa using h2
   exact .inr (by omega)
 have HX:=Ac (PMX.below ((Below.refl _ _).drew))
 have HTX:=Ac ((TX.trans (Turn.below _ ((Below.refl _ ((U.alloc (.map #[] 0)).alloc (.map #[] 0))).drew))).left (b++lb g m1 m2) |>.wide (c:=some p :: (b++lb g m1 m2)) (c':=allB b g m1 m2 p n0 n1 n2 []) (fun k hk=>by
  rcases List.mem_append.1 hk with hk | hk
  ·rw [List.mem_singleton.1 hk];exact List.mem_cons_self ..
  ·exact List.mem_cons_of_mem _ hk) (fun k hk=>by
  rcases List.mem_append.1 hk with hk | hk
  ·exact .inr (List.mem_cons_of_mem _ hk)
  ·exact .inl (List.mem_append_left _ hk)))
 have hPU:p<U.heap.size:=P3.lt;clear P3 N3 L3 T3 M1 M2 hU hlt PMX TX HL HP OFF plt PLT hm1 hm2 HN0 P1 N1 T1 Z1 P2 N2 T2 Z2 e1 hn2 z3 hPU
 generalize (((U.alloc (.map #[] 0)).alloc (.map #[] 0)).drew)=Y at *
 have y0:Y.cell? ⟨p,0,none⟩=some (Cc g):=HX.out.has.cell 0;have y4:Y.cell? ⟨p,4,none⟩=some (.int .i64 0):=HX.out.has.cell 4;have y5:Y.cell? ⟨p,5,none⟩=some (.int .i64 0):=HX.out.has.cell 5;have yf:=HX.out.has.frozen;have yz:=HX.out.has.lt;have PG:=Ac (CS0 b gd g m1 m2 L.rw Y HX.out.log);have S4:=Ac (HX.out.set (P':=Pl.fresh L most) 4 (.int .i64 L.pages) rfl rfl rfl rfl);have RD:=Ac (VV0 S4.out.1 OK.out 0)
 have HF:Hid (Pl.Oj L most=if L.rw.Ej 0=0 then (match Hr (L.rw.Gy 0) with
  | none=>(Pl.fresh L most,4)
  | some pg=>({ Pl.fresh L most with free:=pg.2.1 },0)) else (Pl.fresh L most,L.rw.Ej 0)):=rfl
 have RS:Hid (L.rw.Ej 0=0→(L.rw.Gy 0).size=1024):=fun h=>LH0 OK.out h
 have e2:(Pl.fresh L most).L=L:=rfl;rw [e2] at RD;obtain ⟨T,hT⟩:∃ T,L.rw.Gy 0=T:=⟨_,rfl⟩;obtain ⟨E,hE⟩:∃ E,L.rw.Ej 0=E:=⟨_,rfl⟩;rw [hT,hE] at RD HF RS
 have PG2:Hid (Calls Tryz.prog 39 #[Cc g] Y fun e w'=>e = .returned (.int .i64 L.pages)∧Y=w'):=PG.out
 clear hT hE e2 PG
 by_cases hE0:E=0
 ·subst hE0
  have HF2:=Ac (HF.out.trans (if_pos rfl))
  have TZ:T.size≤1048576:=by have:=RS.out rfl;omega
  have OP:=Ac (fun w=>DI0 T TZ w)
  clear HF TZ RS
  cases ho:Hr T with
  | none =>
    have OP2:Hid (∀ w,Calls Tryz.prog 124 #[.string T] w fun e w'=>e = .returned (.tuple #[.agg #[.int .i64 0,.int .i64 0,.slice none 0 0],.int .i64 4])∧Below w.heap.size w w'):=fun w=>by
     have:=OP.out w;rw [ho] at this;exact this
    have HF3:Hid (Pl.Oj L most=(Pl.fresh L most,4)):=by have:=HF2.out;rw [ho] at this;exact this
    clear OP HF2 ho
    go_wp2_with (first
     | (go_at_call 39;refine PG2.out.mono ?_;rintro en w1 ⟨rfl,rfl⟩)
     | (go_at_call 123;refine RD.out.mono ?_;rintro en w1 ⟨rfl,rfl⟩)
     | (go_at_call 124;refine (OP2.out _).mono ?_;rintro en w2 ⟨rfl,hb2⟩;obtain ⟨hc,hf2⟩:=Vf hb2;have hz:=hb2.size;(try simp at hz);have hz0:p<w2.heap.size:=(by omega)))
    go_ret
    rw [HF3.out];have q1:=S4.out.1.below hb2;have q2:=q1.set (P':=Pl.fresh L most) 5 (.int .i64 0) rfl rfl rfl rfl;have q3:Below (w2.setCell ⟨p,5,none⟩ (.int .i64 0)).heap.size (w2.setCell ⟨p,5,none⟩ (.int .i64 0)) ((w2.setCell ⟨p,5,none⟩ (.int .i64 0)).alloc (.cells #[.int .i64 0,.int .i64 0,.slice none 0 0] 114)):=(Below.refl _ _).alloc (Nat.le_refl _) _;exact ⟨rfl,n0,n1,n2,q2.1.below q3,(((HTX.out.trans S4.out.2).trans (Turn.below _ hb2)).trans q2.2).trans (Turn.below _ q3)⟩
  | some pg =>
    obtain ⟨k,l,cs⟩:=pg
    have OP2:Hid (∀ w,Calls Tryz.prog 124 #[.string T] w fun e w'=>∃ A c,e = .returned (.tuple #[.agg #[.int .i64 k,.int .i64 l,.slice A cs.length c],.int .i64 0])∧SS w' A cs.length cs∧Below w.heap.size w w'):=fun w=>by
     have:=OP.out w;rw [ho] at this;exact this
    have HF3:Hid (Pl.Oj L most=({ Pl.fresh L most with free:=l },0)):=by have:=HF2.out;rw [ho] at this;exact this
    clear OP HF2 ho
    go_wp2_with (first
     | (go_at_call 39;refine PG2.out.mono ?_;rintro en w1 ⟨rfl,rfl⟩)
     | (go_at_call 123;refine RD.out.mono ?_;rintro en w1 ⟨rfl,rfl⟩)
     | (go_at_call 124;refine (OP2.out _).mono ?_;rintro en w2 ⟨A2,c2,rfl,hss,hb2⟩;clear hss;obtain ⟨hc,hf2⟩:=Vf hb2;have hz:=hb2.size;(try simp at hz);have hz0:p<w2.heap.size:=(by omega)))
    go_ret
    rw [HF3.out];have q1:=S4.out.1.below hb2
    have q2:=q1.set (P':={ Pl.fresh L most with free:=l }) 5 (.int .i64 l) rfl rfl rfl rfl
    have q3:Below (w2.setCell ⟨p,5,none⟩ (.int .i64 l)).heap.size (w2.setCell ⟨p,5,none⟩ (.int .i64 l)) ((w2.setCell ⟨p,5,none⟩ (.int .i64 l)).alloc (.cells #[.int .i64 k,.int .i64 l,.slice A2 cs.length c2] 114)):=(Below.refl _ _).alloc (Nat.le_refl _) _;exact ⟨rfl,n0,n1,n2,q2.1.below q3,(((HTX.out.trans S4.out.2).trans (Turn.below _ hb2)).trans q2.2).trans (Turn.below _ q3)⟩
 ·have HF2:=Ac (HF.out.trans (if_neg hE0))
  clear HF RS
  go_wp2_with (first
   | (go_at_call 39;refine PG2.out.mono ?_;rintro en w1 ⟨rfl,rfl⟩)
   | (go_at_call 123;refine RD.out.mono ?_;rintro en w1 ⟨rfl,rfl⟩))
  go_ret
  rw [HF2.out];exact ⟨rfl,n0,n1,n2,S4.out.1,HTX.out.trans S4.out.2⟩
open Go.Maps
structure QX0 where
 sl:Nat
 nu:Nat
 f:Nat
 p:Nat
def Iy (l:List UInt8) (p0:Nat):Nat→QX0
 | 0=>⟨0,0,0,p0⟩
 | k+1=>if (Ap l k).1≠0∧((Iy l p0 k).nu=0∨(Ap l k).1=(Iy l p0 k).nu % 3+1) then ⟨k,(Ap l k).1,(Ap l k).2.1,(Ap l k).2.2⟩ else Iy l p0 k
def Lj (gd:Nat) (a1 a2 a3 a6:Value) (S:QX0):Array Value:=#[.pointer (some ⟨gd,0,none⟩),a1,a2,a3,.int .i64 S.f,.int .i64 S.p,a6,.int .i64 S.sl,.int .i64 S.nu]
def lastOf (l:List UInt8) (p0:Nat):QX0:=if l.take 16=Hu then Iy l p0 2 else ⟨0,0,0,p0⟩
theorem NF0 {l:List UInt8} {p0:Nat} (h:Bj l=2):lastOf l p0=⟨0,0,0,p0⟩:=by
 unfold lastOf
 split
 ·rename_i hm
  unfold Bj at h
  split at h
  ·rename_i h1
   rcases h1 with h1 | h1
   ·exact absurd hm h1
   ·rw [Iy,if_neg (fun h2=>h2.1 h1.2),Iy,if_neg (fun h2=>h2.1 h1.1)];rfl
  ·split at h <;> cases h
 ·rfl
theorem OJ0 {l:List UInt8} {p0:Nat} (h:Bj l≠2):lastOf l p0=⟨Bj l,(Ap l (Bj l)).1,(Ap l (Bj l)).2.1,(Ap l (Bj l)).2.2⟩:=by
 obtain ⟨g1,g2,hm⟩:=Wq h;unfold lastOf;rw [if_pos hm];unfold Bj at h
 split at h
 ·exact absurd rfl h
 ·rename_i h1
  have hix:Bj l=if (Ap l 0).1=0∨(Ap l 1).1≠0∧(Ap l 1).1=(Ap l 0).1 % 3+1 then 1 else 0:=by unfold Bj;rw [if_neg h1]
  rw [Iy]
  by_cases h0:(Ap l 0).1=0
  ·have e1:Iy l p0 1=⟨0,0,0,p0⟩:=by rw [Iy,if_neg (fun h2=>h2.1 h0)];rfl
   have n1:(Ap l 1).1≠0:=fun e=>h1 (.inr ⟨h0,e⟩)
   rw [e1,if_pos ⟨n1,.inl rfl⟩,hix,if_pos (.inl h0)]
  ·have e1:Iy l p0 1=⟨0,(Ap l 0).1,(Ap l 0).2.1,(Ap l 0).2.2⟩:=by rw [Iy,if_pos ⟨h0,.inl rfl⟩]
   rw [e1]
   by_cases h2:(Ap l 1).1≠0∧(Ap l 1).1=(Ap l 0).1 % 3+1
   ·rw [if_pos ⟨h2.1,.inr h2.2⟩,hix,if_pos (.inr h2)]
   ·rw [if_neg (fun h3=>h3.2.elim h0 fun h4=>h2 ⟨h3.1,h4⟩),hix,if_neg (fun h3=>h3.elim h0 h2)]
def BE1 (w:World) (g gd:Nat) (a1 a2 a3 a6:Value) (S:QX0) (e:Ending) (w':World):Prop :=
 e = .returned (.bool (decide (0<S.nu)))∧Has w' g 181 (Lj gd a1 a2 a3 a6 S)∧Turn [some g] [some g] w w'
theorem BG1 (g gd p0:Nat) (a1 a2 a3 a6:Value) (s:ByteArray) (w:World) (h:Has w g 181 (Lj gd a1 a2 a3 a6 ⟨0,0,0,p0⟩)) (hs:s.size≤67108864) :
 Calls Tryz.prog 112 #[.pointer (some ⟨g,0,none⟩),.string s] w (BE1 w g gd a1 a2 a3 a6 (lastOf s.data.toList p0)):=by
 by_cases hm:s.data.toList.take 16=Hu
 ·have hz:16≤s.size:=by
   have:(s.data.toList.take 16).length=16:=by rw [hm];rfl
   rw [List.length_take,Array.length_toList] at this;have e:s.data.size=s.size:=rfl;omega
  have e1:s.extract 0 16=⟨#[114,101,108,115,116,111,114,101,32,108,111,103,32,48,48,49]⟩:=by
   rw [Ku];show bsOf (Aw _ 0 16)=_;rw [Fe,hm];rfl
  have E:=Ac (show lastOf s.data.toList p0=Iy s.data.toList p0 2 from if_pos hm)
  have HS:=Ac hs;rw [E.out];have HH:=Ac h
  have z0:¬ ((s.size:Int)<16):=by omega
  clear h hm E hs
  have SA:=Ac (fun (k:Nat) (hk:k<2) w1=>TS0 s k hk HS.out w1)
  go_enter Tryz.func112,Tryz.ntmps112
  generalize (⟨#[114,101,108,115,116,111,114,101,32,108,111,103,32,48,48,49]⟩:ByteArray)=MK at *
  go_wp2_with fail
  go_loopw [18] (fun v18 wr=>∃ k:Nat,k≤2∧v18 = .int .i64 k∧Has wr g 181 (Lj gd a1 a2 a3 a6 (Iy s.data.toList p0 k))∧Turn [some g] [some g] w wr) (fun v18 _=>2-(intOf v18).toNat)
  case atStart=>exact ⟨0,by omega,rfl,HH.out,Turn.refl _ _⟩
  case round =>
   obtain ⟨k,hk,rfl,hh,ht⟩:=hrel;have HR:=Ac hh;have HT:=Ac ht;clear hh ht HH z0 e1 hz
   by_cases hk2:k<2
   ·have SK:=Ac (SA.out k hk2)
    obtain ⟨S,hS⟩:∃ S,Iy s.data.toList p0 k=S:=⟨_,rfl⟩
    have ES:=Ac (show Iy s.data.toList p0 (k+1)=if (Ap s.data.toList k).1≠0∧(S.nu=0∨(Ap s.data.toList k).1=S.nu % 3+1) then ⟨k,(Ap s.data.toList k).1,(Ap s.data.toList k).2.1,(Ap s.data.toList k).2.2⟩ else S by rw [Iy,hS])
    rw [hS] at HR;clear SA hS
    go_upto_region 7 with (go_at_call 183;(with_reducible refine (SK.out _).mono ?_);rintro e w1 ⟨n,f,p,b,rfl,hsl,hb⟩;have HSL:=Ac hsl;have H1:=Ac (HR.out.Aj hb);have HT1:=Ac (HT.out.trans (Turn.below _ hb));clear hsl hb)
    have x8:w1.cell? ⟨g,8,none⟩=some (.int .i64 S.nu):=H1.out.cell 8;have x7:w1.cell? ⟨g,7,none⟩=some (.int .i64 S.sl):=H1.out.cell 7;have x4:w1.cell? ⟨g,4,none⟩=some (.int .i64 S.f):=H1.out.cell 4;have x5:w1.cell? ⟨g,5,none⟩=some (.int .i64 S.p):=H1.out.cell 5;have xz:=H1.out.lt;have xf:=H1.out.frozen
    cases b with
    | false =>
      have E1:=Ac (show Iy s.data.toList p0 (k+1)=S by
       have h0:=HSL.out.1;rw [ES.out,if_neg];intro h2
       exact absurd h0.symm (by rw [decide_eq_true h2.1];decide))
      clear HSL ES
      go_wp2_with fail
      go_roundw
      case rel=>exact ⟨k+1,by omega,by simp,by rw [E1.out];exact H1.out,HT1.out⟩
      case measure=>simp [intOf];omega
    | true =>
      have hsl:=HSL.out.2 rfl
      have hn0:n≠0:=by
       have h0:=HSL.out.1;rw [hsl] at h0;exact of_decide_eq_true h0.symm
      rw [hsl] at ES;simp only at ES
      have HSET:=Ac (show Has ((((w1.setCell ⟨g,7,none⟩ (.int .i64 k)).setCell ⟨g,8,none⟩ (.int .i64 n)).setCell ⟨g,4,none⟩ (.int .i64 f)).setCell ⟨g,5,none⟩ (.int .i64 p)) g 181 (Lj gd a1 a2 a3 a6 ⟨k,n,f,p⟩) from (((H1.out.set 7 _).set 8 _).set 4 _).set 5 _)
      have TSET:=Ac (HT1.out.trans ((((Turn.cell g 7 (.int .i64 k) w1).trans (Turn.cell g 8 (.int .i64 n) _)).trans (Turn.cell g 4 (.int .i64 f) _)).trans (Turn.cell g 5 (.int .i64 p) _)));have EN:=Ac hn0;clear HSL hsl hn0
      by_cases h0:S.nu=0
      ·have E1:=Ac (show Iy s.data.toList p0 (k+1)=⟨k,n,f,p⟩ by rw [ES.out,if_pos ⟨EN.out,.inl h0⟩])
       have t0:(S.nu:Int)=0:=by omega
       rw [t0] at x8;clear ES h0
       go_wp2_with fail
       go_roundw
       case rel=>exact ⟨k+1,by omega,by simp,by rw [E1.out];exact HSET.out,TSET.out⟩
       case measure=>simp [intOf];omega
      ·have t0:((S.nu:Int) == 0)=false:=by simp;exact h0
       by_cases h1:n=S.nu % 3+1
       ·have E1:=Ac (show Iy s.data.toList p0 (k+1)=⟨k,n,f,p⟩ by rw [ES.out,if_pos ⟨EN.out,.inr h1⟩])
        have T1:=Ac (show (n:Int)=(S.nu:Int) % 3+1 by omega)
        have t2:((n:Int) == (S.nu:Int) % 3+1)=true:=by simp;omega
        clear ES h0 h1
        go_wp2_with fail
        go_roundw
        case rel =>
         have q1:=HSET.out;have q2:=TSET.out
         exact ⟨k+1,by omega,by simp,by rw [E1.out];exact q1,q2⟩
        case measure=>simp [intOf];omega
       ·have E1:=Ac (show Iy s.data.toList p0 (k+1)=S by rw [ES.out,if_neg (fun h2=>h2.2.elim h0 h1)])
        have t2:((n:Int) == (S.nu:Int) % 3+1)=false:=by rw [beq_eq_false_iff_ne];omega
        clear ES h0 h1
        go_wp2_with fail
        go_roundw
        case rel=>exact ⟨k+1,by omega,by simp,by rw [E1.out];exact H1.out,HT1.out⟩
        case measure=>simp [intOf];omega
   ·obtain rfl:k=2:=by omega
    have x8:=HR.out.cell 8;have xz:=HR.out.lt;simp only [Lj] at x8
    go_wp2_with fail
    go_ret
    exact ⟨rfl,HR.out,HT.out⟩
 ·have E:=Ac (show lastOf s.data.toList p0=⟨0,0,0,p0⟩ from if_neg hm)
  rw [E.out];have HH:=Ac h
  by_cases hz:s.size<16
  ·have z0:(s.size:Int)<16:=by omega
   clear h hm hz
   go_enter Tryz.func112,Tryz.ntmps112
   generalize (⟨#[114,101,108,115,116,111,114,101,32,108,111,103,32,48,48,49]⟩:ByteArray)=MK at *
   go_wp2_with fail
   go_ret
   exact ⟨rfl,HH.out,Turn.refl _ _⟩
  ·have z0:¬ ((s.size:Int)<16):=by omega
   have e1:s.extract 0 16≠⟨#[114,101,108,115,116,111,114,101,32,108,111,103,32,48,48,49]⟩:=fun e=>hm (by
    rw [Ku] at e
    have e2:=congrArg (fun x:ByteArray=>x.data.toList) e
    simp only at e2;rw [Ew] at e2;have e3:Aw s.data.toList 0 16=Hu:=e2
    rw [Fe] at e3;exact e3)
   have z16:16≤s.size:=by omega
   clear h hm hz
   go_enter Tryz.func112,Tryz.ntmps112
   generalize (⟨#[114,101,108,115,116,111,114,101,32,108,111,103,32,48,48,49]⟩:ByteArray)=MK at *
   have e2:((s.extract 0 16).toList == MK.toList)=false:=by
    rw [beq_eq_false_iff_ne];intro e;rw [Lib.toList_data,Lib.toList_data] at e;exact e1 (ByteArray.ext (Array.toList_inj.1 e))
   clear e1
   go_wp2_with fail
   go_ret
   exact ⟨rfl,HH.out,Turn.refl _ _⟩
end Go.Proofs.YtjihboddejaelaaGreat
