/-
  room of package pool.
-/
import Derived.Test.YtjihboddejaelaaGreatPr11
import Derived.Lib.Builder
import Derived.Test.YtjihboddejaelaaGreatPr8
import Derived.Test.YtjihboddejaelaaGreatPr4
import Derived.Test.YtjihboddejaelaaGreatPr1
import Derived.Test.YtjihboddejaelaaGreatPr5
set_option linter.unusedVariables false
set_option linter.unusedSimpArgs false
namespace Go.Proofs.YtjihboddejaelaaGreat
open Go.RowKit
open Go.BigFrame
theorem GM.len {R:Value→Option (DataW Unit×List MemPlace)} {w:World} {b c:Nat} {g:Int→Option Nat} {t e:TypeId} (ht : Tryz.prog.underlying t=some (.map 3 e)) (h:GM R w b g c) (ty:TypeId) :
 (Builtin.len_ #[t] ty #[.map (some b)]).run Tryz.prog w = .ok (.int .i64 (c:Int)) w:=by
 obtain ⟨D,h1,h2,h3⟩:=h
 have:=h1.len ht ty
 rw [h3] at this;exact this
section
variable {w w':World} {b b':List (Option Nat)} {gd g m1 m2 m1' m2' p e h t:Nat} {A A1 A2:List Nat} {a:Nat} {P:Pl}
def PmPost (B:List (Option Nat)) (w:World) (gd g p e h t:Nat) (A:List Nat) (P:Pl) (v:Value) (en:Ending) (w':World):Prop :=
 en = .returned v∧∃ b' m1' m2',PM w' b' gd g m1' m2' p e h t A P∧Turn B (allB b' g m1' m2' p e h t A) w w'
theorem pm_Append (H:PM w b gd g m1 m2 p e h t A P) (ok:P.L.ok) (fit:Fit P.L.D 1) (n:Int) (s:ByteArray) :
 Calls Tryz.prog 98 #[ptrB g,.int .i64 n,.string s] w (PmPost (allB b g m1 m2 p e h t A) w gd g p e h t A { P with L:=P.L.append n s } (.int .i64 (P.L.appendE n s))):=by
 obtain ⟨e1,e2⟩:=rw_app ok n s
 refine (wal_Append b gd g m1 m2 P.L.rw n s w H.log fit (show P.L.fs.length≤_ by have:=ok.len;omega)).mono fun en w' hp=>?_
 rw [← e1,← e2] at hp
 obtain ⟨he,b',m1',m2',h1,h2⟩:=hp.maps
 obtain ⟨h3,h4⟩:=H.onLog h1 h2
 exact ⟨he,b',m1',m2',h3,h4⟩
def LeavesPost (w:World) (b:List (Option Nat)) (gd g m1 m2 p e h t a:Nat) (A A':List Nat) (f:Pf) (P:Pl) (en:Ending) (w':World):Prop :=
 en = .returned (.tuple #[])∧PM w' b gd g m1 m2 p e h t A' P∧(∃ x y,Has w' a 166 (frC f x y))∧Turn (allB b g m1 m2 p e h t A) (allB b g m1 m2 p e h t A') w w'
theorem pm_leaveF {F1 F2:List Pf} {f:Pf} (H:PM w b gd g m1 m2 p e h t (A1++a :: A2) P) (hF:P.ring=F1++f :: F2) (hl:A1.length=F1.length) (hnm:(P.ring.map (·.n)).Nodup) (hn:f.n≤4294967296) :
 Calls Tryz.prog 164 #[ptrB p,ptrB a] w (fun en w'=>LeavesPost w b gd g m1 m2 p e h t a (A1++a :: A2) (A1++A2) f { P with ring:=F1++F2 } en w'∧Turn (some h :: (e :: (A1++a :: A2)).map some) (some h :: (e :: (A1++a :: A2)).map some) w w'):=by
 have hr:=H.ring
 have hh:=H.held
 rw [hF] at hr hh hnm
 refine (pool_leave p a e h (plCells g e h t P) A1 A2 F1 F2 f _ _ w H.has rfl hr hl hh H.hp hn).mono ?_
 rintro en w' ⟨he,h1,h2,h3,h4,h5⟩
 rw [heldOf_at hnm hl] at h2
 have hm:∀ k,some k∈(some h :: (e :: (A1++a :: A2)).map some)→some k∈pb p e h t (A1++a :: A2):=fun k hk=>by
  rw [mem_pb]
  rcases List.mem_cons.1 hk with hk | hk
  ·cases hk;exact .inr (.inl rfl)
  ·exact .inr (.inr (.inr (mem_somes.1 hk)))
 have hsub:∀ k,some k∈pb p e h t (A1++A2)→some k∈pb p e h t (A1++a :: A2):=fun k hk=>by
  rw [mem_pb] at hk ⊢
  rcases hk with hk | hk | hk | hk
  ·exact .inl hk
  ·exact .inr (.inl hk)
  ·exact .inr (.inr (.inl hk))
  ·refine .inr (.inr (.inr ?_))
   simp only [List.mem_cons,List.mem_append] at hk ⊢
   rcases hk with hk | hk | hk
   ·exact .inl hk
   ·exact .inr (.inl hk)
   ·exact .inr (.inr (.inr hk))
 have htn:¬ some t∈(some h :: (e :: (A1++a :: A2)).map some):=fun hk=>by
  rcases List.mem_cons.1 hk with hk | hk
  ·cases hk;exact H.ht rfl
  ·exact H.ring.off H.turned (mem_somes.1 hk)
 refine ⟨⟨he,⟨?_,h3,h1, ?_, ?_, ?_,H.ht, ?_⟩,h4, ?_⟩,h5⟩
 ·exact H.log.far h5 (fun k h6 h7=>H.off k h7 (hm k h6))
 ·refine GM.congr (c:=(F1++F2).length) ?_ (fun x=>(heldOf_del (a:=a) hnm hl x).symm)
  have hc:(if (some a:Option Nat).isSome then (F1++f :: F2).length-1 else (F1++f :: F2).length)=(F1++F2).length:=by
   rw [if_pos (show (some a:Option Nat).isSome=true from rfl),List.length_append,List.length_append,List.length_cons];omega
  rw [hc] at h2
  exact h2
 ·exact H.turned.turn h5 htn
 ·intro hx
  refine H.hp ?_
  simp only [List.mem_cons,List.mem_append] at hx ⊢
  rcases hx with hk | hk | hk
  ·exact .inl hk
  ·exact .inr (.inl hk)
  ·exact .inr (.inr (.inr hk))
 ·exact fun k h6 h7=>H.off k h6 (hsub k h7)
 ·refine h5.wide (fun k hk=>List.mem_append_right _ (hm k hk)) (fun k hk=>.inr ?_)
  rcases List.mem_append.1 hk with hk | hk
  ·exact List.mem_append_left _ hk
  ·exact List.mem_append_right _ (hsub k hk)
theorem pm_leave {F1 F2:List Pf} {f:Pf} (H:PM w b gd g m1 m2 p e h t (A1++a :: A2) P) (hF:P.ring=F1++f :: F2) (hl:A1.length=F1.length) (hnm:(P.ring.map (·.n)).Nodup) (hn:f.n≤4294967296) :
 Calls Tryz.prog 164 #[ptrB p,ptrB a] w (LeavesPost w b gd g m1 m2 p e h t a (A1++a :: A2) (A1++A2) f { P with ring:=F1++F2 }) :=
 (pm_leaveF H hF hl hnm hn).mono fun en w' h=>h.1
end
theorem frInfo:(Tryz.prog.info? 166).map (fun i=>i.size)=some 6:=by kernel_rfl
theorem fr_info:∃ j,Tryz.prog.info? 166 = some j∧j.size≠0:=by
 have h:=frInfo
 cases hj : Tryz.prog.info? 166 with
 | none=>rw [hj] at h;cases h
 | some j=>rw [hj] at h;exact ⟨j,rfl,by have h2:j.size=6:=(by simpa using h);omega⟩
theorem neq_fr {w:World} {a b:Nat} {ta tb:TypeId} {ca cb:Array Value} (ha:Has w a ta ca) (hb:Has w b tb cb) (hne:¬ a=b):(binOp .neq 102 (ptrB a) (ptrB b)).run Tryz.prog w = .ok (.bool true) w:=by
 obtain ⟨j,hj,hs⟩:=fr_info
 have hn:(⟨a,0,none⟩:Addr)≠⟨b,0,none⟩:=fun e=>hne (by cases e;rfl)
 have h:∀ d:Nat,(Op.equalIn (d+1) 102 (ptrB a) (ptrB b)).run Tryz.prog w = .ok false w:=fun d=>by
  simp [Op.equalIn,run_underlying Tryz.underlying102,sizeOf,typeInfo,hj,hs,run_sameAddr_other w hn ha hb]
 simp only [binOp]
 simp [Op.equal,Op.maxDepth,h 9999]
theorem neq_fr_same (w:World) (a:Nat):(binOp .neq 102 (ptrB a) (ptrB a)).run Tryz.prog w = .ok (.bool false) w:=by
 obtain ⟨j,hj,hs⟩:=fr_info
 exact Lib.run_neq_ptr_same w _ Tryz.underlying102 hj
theorem head_end (A:List Nat) (e:Nat):(A.drop A.length).headD e=e:=by rw [List.drop_length];rfl
theorem split_at {A:List Nat} {k:Nat} (h:k<A.length):A=A.take k++A[k] :: A.drop (k+1):=by
 rw [← List.drop_eq_getElem_cons h,List.take_append_drop]
theorem split_atF {F:List Pf} {k:Nat} (h:k<F.length):F=F.take k++F[k] :: F.drop (k+1):=by
 rw [← List.drop_eq_getElem_cons h,List.take_append_drop]
def RoomPost (B:List (Option Nat)) (w:World) (gd g p e h t:Nat) (P:Pl) (E:Int) (en:Ending) (w':World):Prop :=
 en = .returned (.int .i64 E)∧∃ b' m1' m2' A',PM w' b' gd g m1' m2' p e h t A' P∧Turn B (allB b' g m1' m2' p e h t A') w w'
def blockOf:Value→Nat
 | .pointer (some a)=>a.block
 | _=>0
theorem idx_next {A1 A2:List Nat} {a e:Nat} (h:(e :: (A1++a :: A2)).Nodup):(A1++a :: A2).length-(A1++a :: A2).idxOf (A2.headD e)<(A1++a :: A2).length-(A1++a :: A2).idxOf a:=by
 rw [List.nodup_cons,List.nodup_append,List.nodup_cons] at h
 obtain ⟨he,h1,⟨h2,h3⟩,h4⟩:=h
 have ha:a∉A1:=fun hm=>h4 a hm a (List.mem_cons_self ..) rfl
 have e1:(A1++a :: A2).idxOf a=A1.length:=by
  rw [List.idxOf_append,if_neg ha,List.idxOf_cons_self];omega
 have e2:A1.length<(A1++a :: A2).idxOf (A2.headD e):=by
  rcases A2 with _ | ⟨b,A2⟩
  ·rw [show ([]:List Nat).headD e=e from rfl,List.idxOf_eq_length (by simpa using he)]
   simp
  ·show A1.length<(A1++a :: b :: A2).idxOf b
   have hb:b∉A1:=fun hm=>h4 b hm b (List.mem_cons_of_mem _ (List.mem_cons_self ..)) rfl
   have hab:¬ a=b:=fun x=>h2 (x ▸ List.mem_cons_self ..)
   rw [List.idxOf_append,if_neg hb,List.idxOf_cons,beq_eq_false_iff_ne.2 hab];simp;try omega
 have e3:(A1++a :: A2).length=A1.length+A2.length+1:=by simp;omega
 rw [e1]
 omega
set_option maxRecDepth 100000 in
set_option maxHeartbeats 6400000 in
theorem pool_room (b:List (Option Nat)) (gd g m1 m2 p e h t:Nat) (A:List Nat) (P:Pl) (w:World) (H:PM w b gd g m1 m2 p e h t A P) (ok:P.ok) (fit:Fit P.L.D 1) :
 Calls Tryz.prog 125 #[.pointer (some ⟨p,0,none⟩)] w (RoomPost (allB b g m1 m2 p e h t A) w gd g p e h t P.room.1 P.room.2):=by
 have HP:=Lib.hid H
 have OK:=Lib.hid ok
 have x0:w.cell? ⟨p,0,none⟩=some (ptrB g):=H.has.cell 0
 have x1:w.cell? ⟨p,1,none⟩=some (.int .i64 P.most):=H.has.cell 1
 have x2:w.cell? ⟨p,2,none⟩=some (ptrB e):=H.has.cell 2
 have x3:w.cell? ⟨p,3,none⟩=some (.map (some h)):=H.has.cell 3
 obtain ⟨q0,hq0⟩:∃ q,A.headD e=q:=⟨_,rfl⟩
 have e5:w.cell? ⟨e,5,none⟩=some (ptrB q0):=by rw [← hq0];exact H.ring.ends.cell 5
 have HQ0:=Lib.hid hq0
 clear hq0
 have hlen:=(H.held.block (w':=w.drew) rfl).len Tryz.underlying103 3
 have AL:=Lib.hid H.ring.len
 have FIT:=Lib.hid fit
 by_cases hlt:P.ring.length<P.most
 ·have hR:P.room=(P,0):=if_pos hlt
  rw [hR]
  clear hR H ok fit
  go_enter Tryz.func125,Tryz.ntmps125
  go_wp2_with fail
  go_region
  go_wp2_with fail
  go_ret
  exact ⟨rfl,b,m1,m2,A,HP.out.below ((Below.refl _ _).drew),Turn.below _ ((Below.refl _ _).drew)⟩
 ·have hR:P.room=match idle P.ring with | none=>(P,6) | some f=>P.spill f:=if_neg hlt
  have HR:=Lib.hid hR
  have HD:=Lib.hid (H.below ((Below.refl w.heap.size w).drew))
  have hbd:Below w.heap.size w w.drew:=(Below.refl w.heap.size w).drew
  have ND:=Lib.hid H.ring.nodup
  clear hR H ok fit
  go_enter Tryz.func125,Tryz.ntmps125
  go_wp2_with fail
  go_region
  go_wp2_with fail
  clear hlen x1 hlt
  go_loop [3] (fun v3=>∃ k y:Nat,k≤A.length∧v3=ptrB y∧Hid ((A.drop k).headD e=y)∧∀ f∈P.ring.take k,f.pins≠0) (fun v3=>A.length-A.idxOf (blockOf v3))
  case atStart=>exact ⟨0,q0,Nat.zero_le _,rfl,HQ0.out,fun f hf=>by simp at hf⟩
  case round =>
   obtain ⟨k,y,hk,rfl,HY,hpins⟩:=hrel
   have HPN:=Lib.hid hpins
   clear hpins
   by_cases h1:k<A.length
   ·have hkF:k<P.ring.length:=by have:=AL.out;omega
    obtain ⟨F1,f,F2,hF,hlF⟩:∃ F1 f F2,P.ring=F1++f :: F2∧F1.length=k:=⟨P.ring.take k,P.ring[k],P.ring.drop (k+1),split_atF hkF,by rw [List.length_take];omega⟩
    obtain ⟨A1,a,A2,hA,hlA⟩:∃ A1 a A2,A=A1++a :: A2∧A1.length=k:=⟨A.take k,A[k],A.drop (k+1),split_at h1,by rw [List.length_take];omega⟩
    subst hA
    have hl:A1.length=F1.length:=hlA.trans hlF.symm
    have hd:((A1++a :: A2).drop k).headD e=a:=by rw [← hlA,List.drop_left];rfl
    obtain rfl:a=y:=hd.symm.trans HY.out
    have hr:=HP.out.ring
    rw [hF] at hr
    have hat:=hr.at hl
    have hp1:∀ g∈F1,g.pins≠0:=fun g hg=>HPN.out g (by rw [hF,← hlF,List.take_left];exact hg)
    have hae:¬ a=e:=fun x=>(List.nodup_cons.1 hr.nodup).1 (x ▸ List.mem_append_right _ (List.mem_cons_self ..))
    have a0:w.cell? ⟨a,0,none⟩=some (.int .i64 f.n):=hat.cell 0
    have a1:w.cell? ⟨a,1,none⟩=some (.string f.s):=hat.cell 1
    have a2:w.cell? ⟨a,2,none⟩=some (.int .i64 f.pins):=hat.cell 2
    have a3:w.cell? ⟨a,3,none⟩=some (.bool f.dirty):=hat.cell 3
    obtain ⟨nx,hnx⟩:∃ nx,A2.headD e=nx:=⟨_,rfl⟩
    have a5:w.cell? ⟨a,5,none⟩=some (ptrB nx):=by rw [← hnx];exact hat.cell 5
    have HNX:=Lib.hid hnx
    have hneq:=neq_fr (w:=w.drew) hat HP.out.ring.ends hae
    have FN:=Lib.hid (show f.n≤4294967296 by have:=OK.out.pages f (by rw [hF];exact List.mem_append_right _ (List.mem_cons_self ..));have:=OK.out.few;omega)
    have HF:=Lib.hid hF;have HL:=Lib.hid hl;have HLA:=Lib.hid hlA;have HP1:=Lib.hid hp1
    clear hF hl hd hr hat hp1 hkF h1 hlF hlA hnx hae HY HQ0
    by_cases hp0:f.pins=0
    ·rw [hp0] at a2
     have a2:w.cell? ⟨a,2,none⟩=some (.int .i64 0):=a2
     have HI:Hid (P.room=P.spill f):=by
      have:=HR.out
      rw [HF.out,idle_at HP1.out hp0] at this
      exact this
     have HDR:=Lib.hid (show dropN f.n P.ring=F1++F2 by have:=OK.out.names;rw [HF.out] at this ⊢;exact dropN_mid this)
     clear hp0
     cases hdir:f.dirty
     ·rw [hdir] at a3
      have LV:=Lib.hid (pm_leave HD.out HF.out HL.out OK.out.names FN.out)
      have HS:Hid (P.room=({ P with ring:=F1++F2 },0)):=by
       rw [HI.out];unfold Pl.spill;rw [hdir,HDR.out];rfl
      clear hdir
      go_wp2_with (go_at_call 164;refine LV.out.mono ?_;rintro e2 w1 ⟨rfl,hpm,_,ht⟩)
      go_ret
      rw [HS.out]
      exact ⟨rfl,b,m1,m2,A1++A2,hpm,(Turn.below _ hbd).trans ht⟩
     ·rw [hdir] at a3
      obtain ⟨E,hE⟩:∃ E,P.L.appendE f.n f.s=E:=⟨_,rfl⟩
      have AP:=Lib.hid (fun u (hb:Below w.heap.size w u)=>pm_Append (HP.out.below hb) OK.out.log FIT.out f.n f.s)
      have APT:=Lib.hid (fun u (hb:Below w.heap.size w u)=>Turn.below (allB b g m1 m2 p e h t (A1++a :: A2)) hb)
      rw [hE] at AP
      have HS:Hid (P.room=if E=0 then ({ P with L:=P.L.append f.n f.s,spills:=wrap64 (P.spills+1),ring:=F1++F2 },0) else ({ P with L:=P.L.append f.n f.s },E)):=by
       rw [HI.out];unfold Pl.spill;rw [hdir,HDR.out,hE];rfl
      clear hdir hE
      go_wp2_with fail
      go_region_with (go_at_call 98;refine (AP.out _ (by repeat (first | exact Below.refl _ _ | refine Below.drew ?_))).mono ?_;rintro e2 w1 ⟨rfl,b1,n1,n2,hpm,ht⟩)
      all_goals
       have HM:=Lib.hid hpm
       have HT:=Lib.hid ((APT.out _ ((((Below.refl w.heap.size w).drew)).drew)).trans ht)
       clear hpm ht x0 x2 x3 e5 a0 a1 a2 a3 a5
       by_cases hE0:E=0
       ·subst hE0
        have HS0:=Lib.hid (HS.out.trans (if_pos rfl))
        clear HS
        have y9:w1.cell? ⟨p,9,none⟩=some (.int .i64 P.spills):=HM.out.has.cell 9
        have yf:=HM.out.has.frozen
        have ST:=Lib.hid (HM.out.set (P':={ P with L:=P.L.append f.n f.s,spills:=wrap64 (P.spills+1) }) 9 (.int .i64 (wrap64 (P.spills+1))) rfl rfl rfl rfl)
        have LV:=Lib.hid (pm_leave ST.out.1 HF.out HL.out OK.out.names FN.out)
        go_wp2_with (go_at_call 164;refine LV.out.mono ?_;rintro e2 w2 ⟨rfl,hpm,_,ht⟩)
        go_ret
        rw [HS0.out]
        exact ⟨rfl,b1,n1,n2,A1++A2,hpm,(HT.out.trans ST.out.2).trans ht⟩
       ·have HS0:=Lib.hid (HS.out.trans (if_neg hE0))
        clear HS
        go_wp2_with fail
        go_ret
        rw [HS0.out]
        exact ⟨rfl,b1,n1,n2,A1++a :: A2,HM.out,HT.out⟩
    ·have g0:(0:Int)<(f.pins:Int):=by omega
     go_wp2_with fail
     go_round
     case rel =>
      refine ⟨k+1,nx, ?_,rfl, ?_,fun x hx=>?_⟩
      ·rw [List.length_append,List.length_cons,← HLA.out];omega
      ·show ((A1++a :: A2).drop (k+1)).headD e=nx
       rw [← HLA.out,show (A1++a :: A2).drop (A1.length+1)=A2 by rw [List.drop_append];simp]
       exact HNX.out
      ·rw [HF.out,show k+1=(F1++[f]).length by rw [List.length_append,List.length_singleton];have:=HL.out;have:=HLA.out;omega,show F1++f :: F2=(F1++[f])++F2 by simp,List.take_left] at hx
       rcases List.mem_append.1 hx with hx | hx
       ·exact HP1.out x hx
       ·rw [List.mem_singleton.1 hx];exact hp0
     case measure =>
      show (A1++a :: A2).length-(A1++a :: A2).idxOf nx<(A1++a :: A2).length-(A1++a :: A2).idxOf a
      rw [← HNX.out]
      exact idx_next ND.out
   ·have hk2:k=A.length:=by omega
    subst hk2
    obtain rfl:e=y:=(head_end A e).symm.trans HY.out
    have hneq:=neq_fr_same w.drew e
    have HS:Hid (P.room=(P,6)):=by
     have:=HR.out
     rw [idle_none (fun f hf=>HPN.out f (by rw [List.take_of_length_le (by have:=AL.out;omega)];exact hf))] at this
     exact this
    go_wp2_with fail
    go_ret
    rw [HS.out]
    exact ⟨rfl,b,m1,m2,A,HD.out,Turn.below _ hbd⟩
end Go.Proofs.YtjihboddejaelaaGreat
namespace Go.Proofs.YtjihboddejaelaaGreat
open Go.RowKit
open Go.BigFrame
section
variable {w w':World} {b b':List (Option Nat)} {gd g m1 m2 m1' m2' p e h t:Nat} {A A1 A2:List Nat} {a:Nat} {P:Pl}
theorem pm_Read (H:PM w b gd g m1 m2 p e h t A P) (ok:P.L.ok) (x:Int) :
 Calls Tryz.prog 123 #[ptrB g,.int .i64 x] w fun en w'=>en = .returned (.tuple #[.string (P.L.rw.readS x),.int .i64 (P.L.rw.readE x)])∧w=w' :=
 wal_Read b gd g m1 m2 P.L.rw x w H.log ok.disk (show lastAt P.L.fs x≤_ by have:=lastAt_le P.L.fs x;have:=ok.len;omega)
def LastsPost (w:World) (b:List (Option Nat)) (gd g m1 m2 p e h t a:Nat) (A:List Nat) (P:Pl) (en:Ending) (w':World):Prop :=
 en = .returned (ptrB a)∧PM w' b gd g m1 m2 p e h t (A++[a]) P∧Turn (some a :: allB b g m1 m2 p e h t A) (allB b g m1 m2 p e h t (A++[a])) w w'
theorem mem_pb_snoc {k:Nat}:some k∈pb p e h t (A++[a])↔k=a∨some k∈pb p e h t A:=by
 rw [mem_pb,mem_pb]
 simp only [List.mem_cons,List.mem_append,List.mem_singleton,List.not_mem_nil,or_false]
 constructor
 ·rintro (h | h | h | h | h | h) <;> simp [h]
 ·rintro (h | h | h | h | h | h) <;> simp [h]
theorem pm_last {f:Pf} {va vb:Value} (H:PM w b gd g m1 m2 p e h t A P) (ha:Has w a 166 #[.int .i64 f.n,.string f.s,.int .i64 f.pins,.bool f.dirty,va,vb]) (hoff:some a∉allB b g m1 m2 p e h t A)
 (hn:∀ q∈P.ring,(q.n:Int)≠(f.n:Int)) (hc:P.ring.length≤1000) (hfn:f.n≤4294967296) :
 Calls Tryz.prog 126 #[ptrB p,ptrB a] w (LastsPost w b gd g m1 m2 p e h t a A { P with ring:=P.ring++[f] }):=by
 have ha1:some a∉b++lb g m1 m2:=fun h2=>hoff (List.mem_append_left _ h2)
 have ha2:some a∉pb p e h t A:=fun h2=>hoff (List.mem_append_right _ h2)
 have hpa:¬ p=a:=fun x=>ha2 (mem_pb.2 (.inl x.symm))
 have hea:a∉e :: A:=fun x=>ha2 (mem_pb.2 (.inr (.inr (.inr x))))
 have hta:¬ t=a:=fun x=>ha2 (mem_pb.2 (.inr (.inr (.inl x.symm))))
 refine (pool_last p a e h (plCells g e h t P) A P.ring f va vb _ _ w H.has rfl rfl H.ring ha hea H.held H.hp hpa (by omega) hfn).mono ?_
 rintro en w' ⟨he,h1,h2,h3,h5⟩
 rw [heldOf_none hn] at h2
 have hm:∀ k,some k∈(some a :: some h :: (e :: A).map some)→k=a∨some k∈pb p e h t A:=fun k hk=>by
  rcases List.mem_cons.1 hk with hk | hk
  ·cases hk;exact .inl rfl
  ·rcases List.mem_cons.1 hk with hk | hk
   ·cases hk;exact .inr (mem_pb.2 (.inr (.inl rfl)))
   ·exact .inr (mem_pb.2 (.inr (.inr (.inr (mem_somes.1 hk)))))
 refine ⟨he,⟨?_,h3,h1, ?_, ?_, ?_,H.ht, ?_⟩, ?_⟩
 ·refine H.log.far h5 (fun k h6 h7=>?_)
  rcases hm k h6 with rfl | h8
  ·exact ha1 h7
  ·exact H.off k h7 h8
 ·refine GM.congr (c:=(P.ring++[f]).length) ?_ (fun x=>(heldOf_snoc H.ring.len hn x).symm)
  rw [List.length_append,List.length_singleton]
  exact h2
 ·refine H.turned.turn h5 (fun h6=>?_)
  rcases List.mem_cons.1 h6 with hk | hk
  ·cases hk;exact hta rfl
  ·rcases List.mem_cons.1 hk with hk | hk
   ·cases hk;exact H.ht rfl
   ·exact H.ring.off H.turned (mem_somes.1 hk)
 ·intro hx
  rw [← List.cons_append] at hx
  rcases List.mem_append.1 hx with hx | hx
  ·exact H.hp hx
  ·exact hpa (List.mem_singleton.1 hx)
 ·intro k h6 h7
  rcases mem_pb_snoc.1 h7 with rfl | h8
  ·exact ha1 h6
  ·exact H.off k h6 h8
 ·refine h5.wide (fun k hk=>?_) (fun k hk=>.inr ?_)
  ·rcases hm k hk with rfl | h8
   ·exact List.mem_cons_self ..
   ·exact List.mem_cons_of_mem _ (List.mem_append_right _ h8)
  ·rcases List.mem_append.1 hk with hk | hk
   ·exact List.mem_cons_of_mem _ (List.mem_append_left _ hk)
   ·rcases mem_pb_snoc.1 hk with rfl | h8
    ·exact List.mem_cons_self ..
    ·exact List.mem_cons_of_mem _ (List.mem_append_right _ h8)
theorem PM.beside {P1:Pl} {t1:TypeId} {cs:Array Value} (H:PM w b gd g m1 m2 p e h t (A1++a :: A2) P) (H1:PM w' b gd g m1 m2 p e h t (A1++A2) P1) (ha:Has w' a t1 cs):some a∉allB b g m1 m2 p e h t (A1++A2):=by
 have hin:a∈e :: (A1++a :: A2):=List.mem_cons_of_mem _ (List.mem_append_right _ (List.mem_cons_self ..))
 intro hk
 rcases List.mem_append.1 hk with hk | hk
 ·exact H.off a hk (mem_pb.2 (.inr (.inr (.inr hin))))
 ·rcases mem_pb.1 hk with rfl | rfl | rfl | hk
  ·exact H.hp hin
  ·exact H1.held.notcells ha
  ·exact H1.turned.notcells ha
  ·have nd:=H.ring.nodup
   rw [List.nodup_cons,List.nodup_append,List.nodup_cons] at nd
   obtain ⟨he,n1,⟨n2,n3⟩,n4⟩:=nd
   rcases List.mem_cons.1 hk with rfl | hk
   ·exact he (List.mem_append_right _ (List.mem_cons_self ..))
   ·rcases List.mem_append.1 hk with hk | hk
    ·exact n4 a hk a (List.mem_cons_self ..) rfl
    ·exact n2 hk
end
theorem turn_new {b:List (Option Nat)} {w w':World} (hb:Below w.heap.size w w') {a:Nat} (ha:w.heap.size≤a):Turn b (some a :: b) w w' :=
 ⟨hb.os,hb.tape,hb.output,hb.size,fun k hk _=>hb.block k hk,fun k hk=>by
   rcases List.mem_cons.1 hk with hk | hk
   ·cases hk;exact .inr ha
   ·exact .inl hk⟩
def GetPost (B:List (Option Nat)) (w:World) (gd g p e h t:Nat) (P:Pl) (E:Int) (en:Ending) (w':World):Prop :=
 ∃ b' m1' m2' A',PM w' b' gd g m1' m2' p e h t A' P∧Turn B (allB b' g m1' m2' p e h t A') w w'∧((E≠0∧en = .returned (.tuple #[.pointer none,.int .i64 E]))∨(E=0∧∃ A0 a,A'=A0++[a]∧en = .returned (.tuple #[ptrB a,.int .i64 0])))
def in64' (x:Int):Prop:=-9223372036854775808≤x∧x≤9223372036854775807
set_option maxRecDepth 100000 in
set_option maxHeartbeats 6400000 in
theorem pool_get (b:List (Option Nat)) (gd g m1 m2 p e h t:Nat) (A:List Nat) (P:Pl) (x:Int) (hx:in64' x) (w:World) (H:PM w b gd g m1 m2 p e h t A P) (ok:P.ok) (fit:Fit P.L.D 1) :
 Calls Tryz.prog 97 #[.pointer (some ⟨p,0,none⟩),.int .i64 x] w (GetPost (allB b g m1 m2 p e h t A) w gd g p e h t (P.get x).1 (P.get x).2):=by
 have HP:=Lib.hid H
 have OK:=Lib.hid ok
 have FIT:=Lib.hid fit
 have WN:=Lib.hid (wfI hx.1 hx.2)
 have x0:w.cell? ⟨p,0,none⟩=some (ptrB g):=H.has.cell 0
 have x3:w.cell? ⟨p,3,none⟩=some (.map (some h)):=H.has.cell 3
 have x4:w.cell? ⟨p,4,none⟩=some (.int .i64 P.pages):=H.has.cell 4
 have x7:w.cell? ⟨p,7,none⟩=some (.int .i64 P.hits):=H.has.cell 7
 have xf:=H.has.frozen
 by_cases hin:0≤x∧x<(P.pages:Int)
 ·obtain ⟨i0,i1⟩:=hin
  have g0:¬ x<0:=by omega
  have g1:¬ (P.pages:Int)≤x:=by omega
  have HG:=Lib.hid (show P.get x=match findN x P.ring with | some f=>({ P with hits:=wrap64 (P.hits+1),ring:=dropN f.n P.ring++[f] },0) | none=>if P.room.2=0 then P.room.1.fetch x.toNat else P.room from if_pos ⟨i0,i1⟩)
  cases hfd:findN x P.ring with
  | some f =>
    obtain ⟨F1,F2,hF,hfx,hne⟩:=find_split hfd
    have al:=H.ring.len
    obtain ⟨A1,a,A2,hA,hl⟩:∃ A1 a A2,A=A1++a :: A2∧A1.length=F1.length:=by
     have hk:F1.length<A.length:=by rw [al,hF];simp
     exact ⟨A.take F1.length,A[F1.length],A.drop (F1.length+1),split_at hk,by rw [List.length_take];omega⟩
    subst hA
    have nm:=ok.names
    have HE:Hid (P.get x=({ P with hits:=wrap64 (P.hits+1),ring:=(F1++F2)++[f] },0)):=by
     have:=HG.out
     rw [hfd] at this
     have hd:dropN f.n P.ring=F1++F2:=by rw [hF] at nm ⊢;exact dropN_mid nm
     dsimp only at this
     rw [hd] at this
     exact this
    have HK:Hid (ptrO (heldOf (A1++a :: A2) P.ring x)=ptrB a):=by
     rw [← hfx,hF,heldOf_at (by rw [← hF];exact nm) hl];rfl
    have FN:f.n≤4294967296:=by have:=ok.pages f (by rw [hF];exact List.mem_append_right _ (List.mem_cons_self ..));have:=ok.few;omega
    have ST:=Lib.hid (H.set (P':={ P with hits:=wrap64 (P.hits+1) }) 7 (.int .i64 (wrap64 (P.hits+1))) rfl rfl rfl rfl)
    have LV:=Lib.hid (pm_leave ST.out.1 hF hl nm FN)
    have HM:=Lib.hid H.held
    have HF:=Lib.hid hF
    have NM:=Lib.hid (names_split (show ((F1++f :: F2).map (·.n)).Nodup by rw [← hF];exact nm))
    have FL:=Lib.hid (show (F1++F2).length≤1000 by have h1:=ok.full;have h2:=ok.most;rw [hF] at h1;simp at h1 ⊢;omega)
    have LST:=Lib.hid (fun (w1:World) (va vb:Value) (hp1:PM w1 b gd g m1 m2 p e h t (A1++A2) { P with hits:=wrap64 (P.hits+1),ring:=F1++F2 }) (ha:Has w1 a 166 #[.int .i64 f.n,.string f.s,.int .i64 f.pins,.bool f.dirty,va,vb]) =>
     pm_last hp1 ha (ST.out.1.beside hp1 ha) (fun q hq=>(List.mem_append.1 hq).elim (NM.out.1 q) (NM.out.2.1 q)) FL.out FN)
    clear hF hfx hne hfd nm al hl H ok fit FN
    go_enter Tryz.func97,Tryz.ntmps97
    go_wp2_with (first
     | (at_lookup;refine wpList_lookup_fr _ rfl _ _ rfl h _ (heldOf (A1++a :: A2) P.ring) rfl HM.out x rfl WN.out ?_;rw [HK.out])
     | (go_at_call 164;refine LV.out.mono ?_;rintro e2 w1 ⟨rfl,hpm,⟨va,vb,ha⟩,ht⟩)
     | (go_at_call 126;refine (LST.out _ _ _ hpm ha).mono ?_;rintro e2 w2 ⟨rfl,hpm2,ht2⟩))
    go_ret2
    rw [HE.out]
    refine ⟨b,m1,m2,_,hpm2, ?_,.inr ⟨rfl,_,a,rfl,rfl⟩⟩
    refine ((ST.out.2.trans ht).wide (c:=allB b g m1 m2 p e h t (A1++a :: A2)) (c':=some a :: allB b g m1 m2 p e h t (A1++A2)) (fun k hk=>hk) (fun k hk=>?_)).trans ht2
    rcases List.mem_cons.1 hk with hk | hk
    ·cases hk;exact .inr (List.mem_append_right _ (mem_pb.2 (.inr (.inr (.inr (List.mem_cons_of_mem _ (List.mem_append_right _ (List.mem_cons_self ..))))))))
    ·exact .inl hk
  | none =>
    have hne:=find_none hfd
    obtain ⟨n,rfl⟩:∃ n:Nat,x=n:=⟨x.toNat,by omega⟩
    have HK:Hid (ptrO (heldOf A P.ring n) = .pointer none):=by rw [heldOf_none hne];rfl
    have HM:=Lib.hid H.held
    have RM:=Lib.hid (pool_room b gd g m1 m2 p e h t A P w H ok fit)
    have RO:=Lib.hid (room_ok ok)
    have RS:=Lib.hid (room_same (P:=P))
    have HNE:=Lib.hid hne
    have HQ:=HG.out
    rw [hfd] at HQ
    dsimp only at HQ
    obtain ⟨R,hR⟩:∃ R,P.room.1=R:=⟨_,rfl⟩
    obtain ⟨E,hE⟩:∃ E,P.room.2=E:=⟨_,rfl⟩
    have hR2:P.room=(R,E):=by rw [← hR,← hE]
    rw [hR2] at RM RO RS HQ
    dsimp only at RM RO RS HQ
    have HQQ:=Lib.hid HQ
    clear hfd hne hR hE hR2 HQ HG H ok fit i0 i1
    by_cases hE0:E=0
    ·subst hE0
     obtain ⟨ER,hER⟩:∃ ER,R.L.rw.readE n=ER:=⟨_,rfl⟩
     obtain ⟨TX,hTX⟩:∃ TX,R.L.rw.readS n=TX:=⟨_,rfl⟩
     have RD:Hid (∀ (w1:World) b1 n1 n2 A1,PM w1 b1 gd g n1 n2 p e h t A1 R→Calls Tryz.prog 123 #[ptrB g,.int .i64 (n:Int)] w1 fun en w'=>en = .returned (.tuple #[.string TX,.int .i64 ER])∧w1=w'):=fun w1 b1 n1 n2 A1 hq=>by
      have:=pm_Read hq RO.out.1.log n
      rw [hER,hTX] at this;exact this
     have HF:Hid (P.get n=if ER=0 then ({ R with misses:=wrap64 (R.misses+1),ring:=R.ring++[⟨n,TX,0,false⟩] },0) else (R,ER)):=by
      have:=HQQ.out
      rw [if_pos rfl] at this
      rw [this]
      unfold Pl.fetch
      rw [Int.toNat_natCast,hER,hTX]
      exact Lib.hid rfl
     clear hER hTX HQQ
     by_cases hr0:ER=0
     ·subst hr0
      have HF0:=Lib.hid (HF.out.trans (if_pos rfl))
      clear HF
      have LST:Hid (∀ (w1:World) b1 n1 n2 A1,PM w1 b1 gd g n1 n2 p e h t A1 R →
       Calls Tryz.prog 126 #[ptrB p,ptrB w1.heap.size] ((w1.setCell ⟨p,8,none⟩ (.int .i64 (wrap64 (R.misses+1)))).alloc (.cells #[.int .i64 (n:Int),.string TX,.int .i64 0,.bool false,.pointer none,.pointer none] 166))
        (fun en w'=>en = .returned (ptrB w1.heap.size)∧PM w' b1 gd g n1 n2 p e h t (A1++[w1.heap.size]) { R with misses:=wrap64 (R.misses+1),ring:=R.ring++[⟨n,TX,0,false⟩] }∧Turn (allB b1 g n1 n2 p e h t A1) (allB b1 g n1 n2 p e h t (A1++[w1.heap.size])) w1 w')):=fun w1 b1 n1 n2 A1 hq=>by
       obtain ⟨s1,s2⟩:=hq.set (P':={ R with misses:=wrap64 (R.misses+1) }) 8 (.int .i64 (wrap64 (R.misses+1))) rfl rfl rfl rfl
       have hb:Below (w1.setCell ⟨p,8,none⟩ (.int .i64 (wrap64 (R.misses+1)))).heap.size (w1.setCell ⟨p,8,none⟩ (.int .i64 (wrap64 (R.misses+1)))) ((w1.setCell ⟨p,8,none⟩ (.int .i64 (wrap64 (R.misses+1)))).alloc (.cells #[.int .i64 (n:Int),.string TX,.int .i64 0,.bool false,.pointer none,.pointer none] 166)):=(Below.refl _ _).alloc (Nat.le_refl _) _
       have hz:(w1.setCell ⟨p,8,none⟩ (.int .i64 (wrap64 (R.misses+1)))).heap.size=w1.heap.size:=by simp
       have hnew:=Has.new (w1.setCell ⟨p,8,none⟩ (.int .i64 (wrap64 (R.misses+1)))) 166 #[.int .i64 (n:Int),.string TX,.int .i64 0,.bool false,.pointer none,.pointer none]
       rw [hz] at hnew
       have hlt:=RO.out.2 rfl
       refine (pm_last (f:=⟨n,TX,0,false⟩) (s1.below hb) hnew (fun hk=>?_) (fun q hq2=>HNE.out q (RS.out.2.2.2.2 q hq2)) ?_ ?_).mono ?_
       ·have:=hq.lt _ hk;omega
       ·show R.ring.length≤1000
        have:=OK.out.most;have:=RO.out.1.full;have:=RO.out.1.most;omega
       ·show n≤4294967296
        have:=OK.out.few;omega
       ·rintro en w' ⟨he,h1,h2⟩
        refine ⟨he,h1,(s2.trans (turn_new hb (a:=w1.heap.size) (by rw [hz];exact Nat.le_refl _))).trans h2⟩
      go_enter Tryz.func97,Tryz.ntmps97
      go_wp2_with (first
       | (at_lookup;refine wpList_lookup_fr _ rfl _ _ rfl h _ (heldOf A P.ring) rfl HM.out n rfl WN.out ?_;rw [HK.out])
       | (go_at_call 125;refine RM.out.mono ?_;rintro e2 w1 ⟨rfl,b1,n1,n2,A1,hpm,ht⟩;have y0:w1.cell? ⟨p,0,none⟩=some (ptrB g):=hpm.has.cell 0;have y8:w1.cell? ⟨p,8,none⟩=some (.int .i64 R.misses):=hpm.has.cell 8;have yf:=hpm.has.frozen)
       | (go_at_call 123;refine (RD.out _ _ _ _ _ hpm).mono ?_;rintro e2 w2 ⟨rfl,rfl⟩)
       | (go_at_call 126;refine (LST.out _ _ _ _ _ hpm).mono ?_;rintro e2 w2 ⟨rfl,hpm2,ht2⟩))
      go_ret2
      rw [HF0.out]
      exact ⟨b1,n1,n2,_,hpm2,ht.trans ht2,.inr ⟨rfl,_,_,rfl,rfl⟩⟩
     ·have HF0:=Lib.hid (HF.out.trans (if_neg hr0))
      clear HF
      go_enter Tryz.func97,Tryz.ntmps97
      go_wp2_with (first
       | (at_lookup;refine wpList_lookup_fr _ rfl _ _ rfl h _ (heldOf A P.ring) rfl HM.out n rfl WN.out ?_;rw [HK.out])
       | (go_at_call 125;refine RM.out.mono ?_;rintro e2 w1 ⟨rfl,b1,n1,n2,A1,hpm,ht⟩;have y0:w1.cell? ⟨p,0,none⟩=some (ptrB g):=hpm.has.cell 0)
       | (go_at_call 123;refine (RD.out _ _ _ _ _ hpm).mono ?_;rintro e2 w2 ⟨rfl,rfl⟩))
      go_ret2
      rw [HF0.out]
      exact ⟨b1,n1,n2,A1,hpm,ht,.inl ⟨hr0,rfl⟩⟩
    ·have HF:Hid (P.get n=(R,E)):=by
      have:=HQQ.out
      rw [if_neg hE0] at this
      exact this
     clear HQQ
     go_enter Tryz.func97,Tryz.ntmps97
     go_wp2_with (first
      | (at_lookup;refine wpList_lookup_fr _ rfl _ _ rfl h _ (heldOf A P.ring) rfl HM.out n rfl WN.out ?_;rw [HK.out])
      | (go_at_call 125;refine RM.out.mono ?_;rintro e2 w1 ⟨rfl,b1,n1,n2,A1,hpm,ht⟩))
     go_ret2
     rw [HF.out]
     exact ⟨b1,n1,n2,A1,hpm,ht,.inl ⟨hE0,rfl⟩⟩
 ·have HE:Hid (P.get x=(P,7)):=if_neg hin
  clear H ok fit
  by_cases g0:x<0
  ·go_enter Tryz.func97,Tryz.ntmps97
   go_wp2_with fail
   go_ret2
   rw [HE.out]
   exact ⟨b,m1,m2,A,HP.out,Turn.refl _ _,.inl ⟨(by show (7:Int)≠0;decide),rfl⟩⟩
  ·have g1:(P.pages:Int)≤x:=by omega
   clear hin
   go_enter Tryz.func97,Tryz.ntmps97
   go_wp2_with fail
   go_ret2
   rw [HE.out]
   exact ⟨b,m1,m2,A,HP.out,Turn.refl _ _,.inl ⟨(by show (7:Int)≠0;decide),rfl⟩⟩
end Go.Proofs.YtjihboddejaelaaGreat
namespace Go.Proofs.YtjihboddejaelaaGreat
open Go.RowKit
open Go.BigFrame
open Go.Maps
theorem append_fit {L:Lg} {k:Nat} (h:Fit L.D (k+1)) (n:Int) (t:ByteArray):Fit (L.append n t).D k:=by
 unfold Lg.append
 split
 ·exact h.write _ _ _
 ·exact h.less (by omega)
theorem append_rest (L:Lg) (n:Int) (t:ByteArray):(L.append n t).slot=L.slot∧(L.append n t).number=L.number∧(L.append n t).kept=L.kept∧(L.append n t).pages=L.pages∧(L.append n t).fs.length≤L.fs.length+1:=by
 unfold Lg.append
 split
 ·refine ⟨rfl,rfl,rfl,rfl, ?_⟩
  show (if L.D.stops then L.fs else L.fs++[_]).length≤_
  split
  ·exact Nat.le_succ _
  ·rw [List.length_append];exact Nat.le_refl _
 ·exact ⟨rfl,rfl,rfl,rfl,Nat.le_succ _⟩
def sheetAt (n:Int) (i:Nat):UInt8:=UInt8.ofNat ((n*((i:Int) / 100+1)) % 256).toNat
def sheetL (n:Int) (k:Nat):List UInt8:=(List.range 1024).map fun i=>if i<k then sheetAt n i else 0
def sheetB (n:Int):ByteArray:=bsOf (sheetL n 1024)
theorem sheetL_len (n:Int) (k:Nat):(sheetL n k).length=1024:=by simp [sheetL]
theorem sheetL_get (n:Int) (k i:Nat) (hi:i<1024):(sheetL n k)[i]? = some (if i<k then sheetAt n i else 0):=by
 unfold sheetL
 rw [List.getElem?_map,List.getElem?_range hi];rfl
theorem sheetL_succ (n:Int) (k:Nat) (hk:k<1024):sheetL n (k+1)=(sheetL n k).set k (sheetAt n k):=by
 refine List.ext_getElem? fun i=>?_
 by_cases hi:i<1024
 ·rw [sheetL_get n _ i hi,List.getElem?_set]
  by_cases hki:k=i
  ·subst hki
   rw [if_pos (Nat.lt_succ_self k),if_pos rfl,if_pos (show k<(sheetL n k).length by rw [sheetL_len];exact hk)]
  ·rw [if_neg hki,sheetL_get n _ i hi]
   by_cases h:i<k
   ·rw [if_pos h,if_pos (by omega)]
   ·rw [if_neg h,if_neg (by omega)]
 ·rw [List.getElem?_eq_none (by rw [sheetL_len];omega),List.getElem?_eq_none (by rw [List.length_set,sheetL_len];omega)]
theorem sheet_val (n:Int) (i:Nat):wrap64 (n*((i:Int) / 100+1)) % 256=((sheetAt n i).toNat:Int):=by
 unfold sheetAt
 generalize n*((i:Int) / 100+1)=x
 rw [UInt8.toNat_ofNat']
 unfold wrap64
 omega
theorem madeZeros (n:Nat):madeCells #[Value.int .u8 0] n=(u8s (List.replicate n 0)).toArray:=by
 apply Array.toList_inj.1
 rw [show (u8s (List.replicate n 0)).toArray.toList=List.replicate n (Value.int .u8 0) by simp [u8s,u8v]]
 refine List.eq_replicate_iff.2 ⟨by simp [size_madeCells],fun b hb=>?_⟩
 simp only [madeCells,Array.toList_map,List.mem_map] at hb
 obtain ⟨a,_,rfl⟩:=hb
 show (#[Value.int .u8 0]:Array Value)[a % 1]! = _
 rw [Nat.mod_one];rfl
theorem sheetL_zero (n:Int):sheetL n 0=List.replicate 1024 0:=by
 refine List.eq_replicate_iff.2 ⟨sheetL_len n 0,fun b hb=>?_⟩
 unfold sheetL at hb
 obtain ⟨i,_,rfl⟩:=List.mem_map.1 hb
 rw [if_neg (by omega)]
theorem u8s_setS (l:List UInt8) (k:Nat) (b:UInt8):(u8s l).toArray.setIfInBounds k (.int .u8 b.toNat)=(u8s (l.set k b)).toArray:=by
 apply Array.toList_inj.1
 simp [u8s,u8v,List.map_set]
section
variable {D:Dk} {k:Nat}
theorem tell_fit {L:Lg} (h:Fit L.D (k+2)) (f p:Nat):Fit (L.tell f p).D k:=by
 have h1:Fit (L.tellD f p) (k+1):=h.write _ _ _
 unfold Lg.tell
 split
 ·exact h1.less (by omega)
 ·have h2:Fit ((L.tellD f p).sync 1) k:=h1.sync 1
  split
  ·exact h2
  ·exact h2
theorem commit_fit {L:Lg} (h:Fit L.D (k+4)) (n:Int) (t:ByteArray) (p:Int):Fit (L.commit n t p).D k:=by
 have h1:Fit (L.append n t).D (k+3):=append_fit h n t
 have h2:Fit ((L.append n t).D.sync 1) (k+2):=h1.sync _
 unfold Lg.commit
 split
 ·split
  ·split
   ·exact h2.less (by omega)
   ·exact tell_fit (L:={ L.append n t with D:=(L.append n t).D.sync 1 }) h2 _ _
  ·exact h1.less (by omega)
 ·exact h.less (by omega)
theorem opened_fit (h:Fit D (k+4)):Fit (Lg.opened D).D k:=by
 unfold Lg.opened
 split
 ·have h1:Fit (D.cutD 1 0) (k+3):=h.cut _ _
  have h2:Fit ((D.cutD 1 0).sync 1) (k+2):=h1.sync _
  have h3:Fit (((D.cutD 1 0).sync 1).write 1 0 (bsOf (markL++slotL 1 0 ((D.seen 0).length / 1024)))) (k+1):=h2.write _ _ _
  have h4:Fit (anewD D) k:=h3.sync 1
  generalize anewD D=X at h4 ⊢
  exact h4
 ·exact h.less (by omega)
theorem opened_calm (h:D.calm):(Lg.opened D).D.calm:=by
 unfold Lg.opened
 split
 ·have h4:(anewD D).calm:=(((h.cut 1 0).sync 1).write 1 0 (bsOf (markL++slotL 1 0 ((D.seen 0).length / 1024)))).sync 1
  generalize anewD D=X at h4 ⊢
  exact h4
 ·exact h
theorem crash_calm (D:Dk) (ks:List Int):(D.crash ks).calm:=⟨rfl,rfl⟩
theorem new_fit:Fit Dk.new 30000000:=⟨Dk.new_ok,by decide,by decide⟩
end
end Go.Proofs.YtjihboddejaelaaGreat
namespace Go.Proofs.YtjihboddejaelaaGreat
open Go.RowKit
open Go.BigFrame
section
variable {w w':World} {b b':List (Option Nat)} {gd g m1 m2 m1' m2' p e h t:Nat} {A A1 A2:List Nat} {a:Nat} {P:Pl}
theorem PM.frame {F1 F2:List Pf} {f f':Pf} (H:PM w b gd g m1 m2 p e h t (A1++a :: A2) P) (hF:P.ring=F1++f :: F2) (hl:A1.length=F1.length) (i:Nat) (v:Value) (hn:f'.n=f.n) (hc:∀ x y,(frC f x y).setIfInBounds i v=frC f' x y) :
 PM (w.setCell ⟨a,i,none⟩ v) b gd g m1 m2 p e h t (A1++a :: A2) { P with ring:=F1++f' :: F2 }∧Turn (allB b g m1 m2 p e h t (A1++a :: A2)) (allB b g m1 m2 p e h t (A1++a :: A2)) w (w.setCell ⟨a,i,none⟩ v):=by
 have hin:a∈e :: (A1++a :: A2):=List.mem_cons_of_mem _ (List.mem_append_right _ (List.mem_cons_self ..))
 have hm:some a∈pb p e h t (A1++a :: A2):=mem_pb.2 (.inr (.inr (.inr hin)))
 have hr:=H.ring
 rw [hF] at hr
 have hat:=hr.at hl
 have nd:=hr.nodup
 rw [List.nodup_cons,List.nodup_append,List.nodup_cons] at nd
 obtain ⟨he,n1,⟨n2,n3⟩,n4⟩:=nd
 have hea:¬ e=a:=fun x=>he (x ▸ List.mem_append_right _ (List.mem_cons_self ..))
 have hpa:¬ p=a:=fun x=>H.hp (x ▸ hin)
 have hha:¬ h=a:=fun x=>by subst x;exact H.held.notcells hat
 have hta:¬ t=a:=fun x=>by subst x;exact H.turned.notcells hat
 have ht:=set_turn [some a] a i v w (List.mem_singleton.2 rfl)
 refine ⟨⟨?_,H.has.far hpa v,⟨hr.nodup,hr.ends.far hea v, ?_⟩, ?_,H.turned.far hta v,H.hp,H.ht,H.off⟩,set_turn _ a i v w (List.mem_append_right _ hm)⟩
 ·exact H.log.far ht (fun k h5 h6=>by cases List.mem_singleton.1 h5;exact H.off a h6 hm)
 ·exact seg_put hr.row hl (fun x=>n4 a x a (List.mem_cons_self ..) rfl) n2 (fun x hx=>Below.heap_setCell _ _ _ _ hx) (fun x y hh=>by have:=hh.set i v;rw [hc] at this;exact this)
 ·have hg:=H.held.far (p:=⟨a,i,none⟩) hha v
  have hlen:(F1++f' :: F2).length=P.ring.length:=by rw [hF];simp
  show GM frElem _ h (heldOf _ (F1++f' :: F2)) (F1++f' :: F2).length
  rw [hlen]
  refine hg.congr fun x=>?_
  rw [hF,heldOf_app hl,heldOf_app hl,heldOf,heldOf,hn]
theorem turnOf_ins (n:Nat) (T:List Nat) (x:Int):turnOf (insN n T) x=if x=n then some 1 else turnOf T x:=by
 unfold insN
 by_cases hx:x=n
 ·subst hx
  rw [if_pos rfl]
  unfold turnOf
  rw [if_pos]
  split
  ·rename_i h;exact ⟨n,h,rfl⟩
  ·exact ⟨n,List.mem_cons_self ..,rfl⟩
 ·rw [if_neg hx]
  split
  ·rfl
  ·unfold turnOf
   have:(∃ m∈n :: T,(m:Int)=x)↔∃ m∈T,(m:Int)=x:=by
    constructor
    ·rintro ⟨m,hm,e⟩
     rcases List.mem_cons.1 hm with rfl | hm
     ·exact absurd e.symm hx
     ·exact ⟨m,hm,e⟩
    ·rintro ⟨m,hm,e⟩;exact ⟨m,List.mem_cons_of_mem _ hm,e⟩
   simp only [this]
theorem turnOf_some (n:Nat) (T:List Nat):(turnOf T n).isSome=decide (n∈T):=by
 unfold turnOf
 by_cases hn:n∈T
 ·rw [if_pos ⟨n,hn,rfl⟩,decide_eq_true hn];rfl
 ·rw [if_neg,decide_eq_false hn]
  ·rfl
  ·rintro ⟨m,hm,e⟩
   have:m=n:=by omega
   exact hn (this ▸ hm)
theorem PM.tell {n:Nat} (H:PM w b gd g m1 m2 p e h t A P) (hm:GM (plainElem Tryz.prog 3) w' t (fun z=>if z=(n:Int) then some 1 else turnOf P.turned z) (if (turnOf P.turned n).isSome then P.turned.length else P.turned.length+1)) (hg:w.grownBy w' (some t)) :
 PM w' b gd g m1 m2 p e h t A { P with turned:=insN n P.turned }∧Turn (allB b g m1 m2 p e h t A) (allB b g m1 m2 p e h t A) w w':=by
 have hm2:some t∈pb p e h t A:=mem_pb.2 (.inr (.inr (.inl rfl)))
 have ht:=grown_turn hg (List.mem_singleton.2 rfl:some t∈[some t])
 have hpt:¬ p=t:=fun x=>by subst x;exact H.turned.notcells H.has
 have hne:=H.ring.off H.turned
 refine ⟨⟨?_,H.has.grown hg (fun x=>hpt (Option.some.inj x)),H.ring.grown hg (fun x hx y=>hne (Option.some.inj y ▸ hx)),H.held.turn ht (fun x=>H.ht (Option.some.inj (List.mem_singleton.1 x))), ?_,H.hp,H.ht,H.off⟩,grown_turn hg (List.mem_append_right _ hm2)⟩
 ·exact H.log.far ht (fun k h5 h6=>by cases List.mem_singleton.1 h5;exact H.off t h6 hm2)
 ·have hc:(if (turnOf P.turned n).isSome then P.turned.length else P.turned.length+1)=(insN n P.turned).length:=by
   rw [turnOf_some];unfold insN
   by_cases hn:n∈P.turned
   ·simp [hn]
   ·simp [hn]
  rw [hc] at hm
  exact hm.congr fun x=>(turnOf_ins n P.turned x).symm
end
theorem get_last {P:Pl} (ok:P.ok) {x:Int} (h:(P.get x).2=0):∃ F0 f,(P.get x).1.ring=F0++[f]∧(f.n:Int)=x∧0≤x∧x<(P.pages:Int):=by
 unfold Pl.get at h ⊢
 split
 ·rename_i hx
  rw [if_pos hx] at h
  split
  ·rename_i f hf
   obtain ⟨F1,F2,e,h1,h2⟩:=find_split hf
   exact ⟨_,f,rfl,h1,hx.1,hx.2⟩
  ·rename_i hf
   rw [hf] at h
   dsimp only at h
   split
   ·rename_i hr
    rw [if_pos hr] at h
    unfold Pl.fetch at h ⊢
    split
    ·exact ⟨_,_,rfl,Int.toNat_of_nonneg hx.1,hx.1,hx.2⟩
    ·rename_i hE
     rw [if_neg hE] at h;exact absurd h hE
   ·rename_i hr
    rw [if_neg hr] at h;exact absurd h hr
 ·rename_i hx
  rw [if_neg hx] at h;cases h
theorem lastF_snoc {P:Pl} {F0:List Pf} {f:Pf} (h:P.ring=F0++[f]):P.lastF=f∧∀ f',P.setLast f'={ P with ring:=F0++[f'] }:=by
 unfold Pl.lastF Pl.setLast
 rw [h]
 exact ⟨by simp,fun f'=>by simp⟩
theorem nodup_le:∀ (n:Nat) (T:List Nat),T.Nodup→(∀ x∈T,x<n)→T.length≤n
 | 0,T,_,h=>by
   cases T with
   | nil=>exact Nat.le_refl _
   | cons x t=>exact absurd (h x (List.mem_cons_self ..)) (by omega)
 | n+1,T,hn,h=>by
   have h1:=nodup_le n (T.erase n) (hn.erase n) (fun x hx=>by
    have h2:=h x (List.mem_of_mem_erase hx)
    have h3:x≠n:=fun e=>by subst e;exact (hn.mem_erase_iff.1 hx).1 rfl
    omega)
   rw [List.length_erase] at h1
   split at h1 <;> omega
def GotPost (B:List (Option Nat)) (w:World) (gd g p e h t:Nat) (P:Pl) (F0:List Pf) (f:Pf) (en:Ending) (w':World):Prop :=
 ∃ b' m1' m2' A0 a,PM w' b' gd g m1' m2' p e h t (A0++[a]) P∧Turn B (allB b' g m1' m2' p e h t (A0++[a])) w w'∧en = .returned (.tuple #[ptrB a,.int .i64 0])∧A0.length=F0.length∧∃ x y,Has w' a 166 (frC f x y)
def MissPost (B:List (Option Nat)) (w:World) (gd g p e h t:Nat) (P:Pl) (E:Int) (en:Ending) (w':World):Prop :=
 ∃ b' m1' m2' A',PM w' b' gd g m1' m2' p e h t A' P∧Turn B (allB b' g m1' m2' p e h t A') w w'∧en = .returned (.tuple #[.pointer none,.int .i64 E])
theorem get_got {B:List (Option Nat)} {w w':World} {gd g p e h t:Nat} {P:Pl} {en:Ending} {F0:List Pf} {f:Pf} (hF:P.ring=F0++[f]) (hg:GetPost B w gd g p e h t P 0 en w'):GotPost B w gd g p e h t P F0 f en w':=by
 obtain ⟨b',n1,n2,A',h1,h2,⟨h3,_⟩ | ⟨_,A0,a,rfl,h3⟩⟩:=hg
 ·exact absurd rfl h3
 ·have hr:=h1.ring
  rw [hF] at hr
  have hl:A0.length=F0.length:=by have:=hr.len;simp at this;omega
  exact ⟨b',n1,n2,A0,a,h1,h2,h3,hl,_,_,hr.at (A2:=[]) (F2:=[]) hl⟩
theorem get_miss {B:List (Option Nat)} {w w':World} {gd g p e h t:Nat} {P:Pl} {E:Int} {en:Ending} (hE:¬ E=0) (hg:GetPost B w gd g p e h t P E en w'):MissPost B w gd g p e h t P E en w':=by
 obtain ⟨b',n1,n2,A',h1,h2,⟨_,h3⟩ | ⟨h3,_⟩⟩:=hg
 ·exact ⟨b',n1,n2,A',h1,h2,h3⟩
 ·exact absurd h3 hE
def ReadPost (B:List (Option Nat)) (w:World) (gd g p e h t:Nat) (P:Pl) (s:ByteArray) (E:Int) (en:Ending) (w':World):Prop :=
 en = .returned (.tuple #[.string s,.int .i64 E])∧∃ b' m1' m2' A',PM w' b' gd g m1' m2' p e h t A' P∧Turn B (allB b' g m1' m2' p e h t A') w w'
def Pl.text (P:Pl) (x:Int):ByteArray:=if (P.get x).2=0 then (P.get x).1.lastF.s else ⟨#[]⟩
set_option maxRecDepth 100000 in
set_option maxHeartbeats 6400000 in
theorem pool_Read (b:List (Option Nat)) (gd g m1 m2 p e h t:Nat) (A:List Nat) (P:Pl) (x:Int) (hx:in64' x) (w:World) (H:PM w b gd g m1 m2 p e h t A P) (ok:P.ok) (fit:Fit P.L.D 1) :
 Calls Tryz.prog 70 #[.pointer (some ⟨p,0,none⟩),.int .i64 x] w (ReadPost (allB b g m1 m2 p e h t A) w gd g p e h t (P.get x).1 (P.text x) (P.get x).2):=by
 have GT:=Lib.hid (pool_get b gd g m1 m2 p e h t A P x hx w H ok fit)
 have GL:=Lib.hid (get_last ok (x:=x))
 have TX:Hid (P.text x=if (P.get x).2=0 then (P.get x).1.lastF.s else ⟨#[]⟩):=rfl
 obtain ⟨T,hT⟩:∃ T,P.text x=T:=⟨_,rfl⟩
 obtain ⟨Q,hQ⟩:∃ Q,(P.get x).1=Q:=⟨_,rfl⟩
 obtain ⟨E,hE⟩:∃ E,(P.get x).2=E:=⟨_,rfl⟩
 rw [hT,hQ,hE] at TX
 rw [hQ,hE] at GT GL
 rw [hT,hQ,hE]
 clear H ok fit hT hQ hE
 by_cases hE0:E=0
 ·subst hE0
  obtain ⟨F0,f,hF,hfx,i0,i1⟩:=GL.out rfl
  have HT:Hid (T=f.s):=by have:=TX.out;rw [if_pos rfl,(lastF_snoc hF).1] at this;exact this
  have HF:=Lib.hid hF
  clear TX GL hfx i0 i1 hF
  have G0:=Lib.hid (GT.out.mono fun en w' hg=>get_got HF.out hg)
  clear GT
  go_enter Tryz.func70,Tryz.ntmps70
  go_wp2_with (go_at_call 97;refine G0.out.mono ?_;rintro en w1 ⟨b1,n1,n2,A0,a,hpm,ht,rfl,hl,xa,ya,hat⟩;have HL:=Lib.hid hl;clear hl;have a1:w1.cell? ⟨a,1,none⟩=some (.string f.s):=hat.cell 1)
  go_ret2
  rw [HT.out]
  exact ⟨rfl,b1,n1,n2,_,hpm,ht⟩
 ·have HT:Hid (T=⟨#[]⟩):=by have:=TX.out;rw [if_neg hE0] at this;exact this
  have G0:=Lib.hid (GT.out.mono fun en w' hg=>get_miss hE0 hg)
  clear TX GL GT
  go_enter Tryz.func70,Tryz.ntmps70
  go_wp2_with (go_at_call 97;refine G0.out.mono ?_;rintro en w1 ⟨b1,n1,n2,A1,hpm,ht,rfl⟩)
  go_ret2
  rw [HT.out]
  exact ⟨rfl,b1,n1,n2,_,hpm,ht⟩
theorem put_eq {P:Pl} {x:Int} {s:ByteArray} {F0:List Pf} {f:Pf} (h:(P.get x).2=0) (hF:(P.get x).1.ring=F0++[f]) (hn:(f.n:Int)=x) :
 P.put x s=({ (P.get x).1 with ring:=F0++[{ f with s:=s,dirty:=true }],turned:=insN f.n (P.get x).1.turned },0):=by
 unfold Pl.put
 rw [if_pos h,(lastF_snoc hF).1,(lastF_snoc hF).2,← hn,Int.toNat_natCast]
set_option maxRecDepth 100000 in
set_option maxHeartbeats 6400000 in
theorem pool_put (b:List (Option Nat)) (gd g m1 m2 p e h t:Nat) (A:List Nat) (P:Pl) (x:Int) (hx:in64' x) (s:ByteArray) (w:World) (H:PM w b gd g m1 m2 p e h t A P) (ok:P.ok) (fit:Fit P.L.D 1) :
 Calls Tryz.prog 128 #[.pointer (some ⟨p,0,none⟩),.int .i64 x,.string s] w (RoomPost (allB b g m1 m2 p e h t A) w gd g p e h t (P.put x s).1 (P.put x s).2):=by
 have GT:=Lib.hid (pool_get b gd g m1 m2 p e h t A P x hx w H ok fit)
 have GOK:=Lib.hid (get_ok ok x)
 by_cases hE0:(P.get x).2=0
 ·obtain ⟨F0,f,hF,hfx,i0,i1⟩:=get_last ok hE0
  have HE:=Lib.hid (put_eq (s:=s) hE0 hF hfx)
  obtain ⟨Q,hQ⟩:∃ Q,(P.get x).1=Q:=⟨_,rfl⟩
  rw [hQ] at hF
  rw [hQ,hE0] at GT
  rw [hQ] at HE GOK
  have HF:=Lib.hid hF
  have WN:=Lib.hid (wfI hx.1 hx.2)
  have TL:=Lib.hid (Nat.le_trans (nodup_le _ _ GOK.out.turnd GOK.out.turns) (Nat.le_trans GOK.out.few (by decide:65536≤100000000)))
  have G0:=Lib.hid (GT.out.mono fun en w' hg=>get_got HF.out hg)
  subst hfx
  clear H ok fit hE0 hF hQ i0 i1 GT
  go_enter Tryz.func128,Tryz.ntmps128
  go_upto_region 6 with (go_at_call 97;refine G0.out.mono ?_;rintro en w1 ⟨b1,n1,n2,A0,a,hpm,ht,rfl,hl,xa,ya,hat⟩;have HL:=Lib.hid hl;have HM:=Lib.hid hpm;have HT:=Lib.hid ht;clear hl ht;have a1:w1.cell? ⟨a,1,none⟩=some (.string f.s):=hat.cell 1;have a3:w1.cell? ⟨a,3,none⟩=some (.bool f.dirty):=hat.cell 3;have af:=hat.frozen;clear hpm hat)
  obtain ⟨s1,t1⟩:=HM.out.frame (f':={ f with s:=s }) (A2:=[]) (F2:=[]) HF.out HL.out 1 (.string s) rfl (fun x y=>rfl)
  obtain ⟨s2,t2⟩:=s1.frame (f':={ f with s:=s,dirty:=true }) (A2:=[]) (F1:=F0) (F2:=[]) rfl HL.out 3 (.bool true) rfl (fun x y=>rfl)
  have S2:=Lib.hid s2
  have T2:=Lib.hid ((HT.out.trans t1).trans t2)
  clear s1 t1 s2 t2 a1 a3 af
  generalize (w1.setCell ⟨a,1,none⟩ (.string s)).setCell ⟨a,3,none⟩ (.bool true)=W at *
  have y6:W.cell? ⟨p,6,none⟩=some (.map (some t)):=S2.out.has.cell 6
  have MT:=Lib.hid S2.out.turned
  go_wp2_with (at_mapUpdate;refine wpList_put_gm _ rfl _ _ _ 104 3 rfl Tryz.underlying104 t _ _ rfl MT.out TL.out (f.n:Int) rfl WN.out _ 1 rfl [] (intElem 1 (by omega)) ?_;intro w3 hm3 hg3)
  go_ret
  obtain ⟨s3,t3⟩:=S2.out.tell (n:=f.n) hm3 hg3
  rw [HE.out]
  exact ⟨rfl,b1,n1,n2,_,s3,T2.out.trans t3⟩
 ·have HE:Hid (P.put x s=P.get x):=if_neg hE0
  rw [HE.out]
  obtain ⟨Q,hQ⟩:∃ Q,(P.get x).1=Q:=⟨_,rfl⟩
  obtain ⟨E,hE⟩:∃ E,(P.get x).2=E:=⟨_,rfl⟩
  rw [hQ,hE] at GT
  rw [hQ,hE]
  rw [hE] at hE0
  have G0:=Lib.hid (GT.out.mono fun en w' hg=>get_miss hE0 hg)
  clear H ok fit hQ hE GT
  go_enter Tryz.func128,Tryz.ntmps128
  go_wp2_with (go_at_call 97;refine G0.out.mono ?_;rintro en w1 ⟨b1,n1,n2,A1,hpm,ht,rfl⟩)
  go_ret
  exact ⟨rfl,b1,n1,n2,_,hpm,ht⟩
set_option maxRecDepth 100000 in
set_option maxHeartbeats 1600000 in
theorem pool_Write (b:List (Option Nat)) (gd g m1 m2 p e h t:Nat) (A:List Nat) (P:Pl) (x:Int) (hx:in64' x) (s:ByteArray) (w:World) (H:PM w b gd g m1 m2 p e h t A P) (ok:P.ok) (fit:Fit P.L.D 1) :
 Calls Tryz.prog 72 #[.pointer (some ⟨p,0,none⟩),.int .i64 x,.string s] w (RoomPost (allB b g m1 m2 p e h t A) w gd g p e h t (P.write x s).1 (P.write x s).2):=by
 have PT:=Lib.hid (pool_put b gd g m1 m2 p e h t A P x hx s w H ok fit)
 have HP:=Lib.hid H
 by_cases hx0:x=0
 ·have HE:Hid (P.write x s=(P,1)):=if_pos (.inl hx0)
  rw [HE.out]
  subst hx0
  clear H ok fit
  go_enter Tryz.func72,Tryz.ntmps72
  go_wp2_with fail
  go_ret
  exact ⟨rfl,b,m1,m2,A,HP.out,Turn.refl _ _⟩
 ·have e0:(x == 0)=false:=beq_eq_false_iff_ne.2 hx0
  by_cases hs:s.size=1024
  ·have HE:Hid (P.write x s=P.put x s):=if_neg (fun h=>h.elim hx0 fun h2=>h2 hs)
   rw [HE.out]
   obtain ⟨Q,hQ⟩:∃ Q,P.put x s=Q:=⟨_,rfl⟩
   rw [hQ] at PT ⊢
   have z:(s.size:Int)=1024:=by omega
   clear H ok fit hx0 hQ hs
   go_enter Tryz.func72,Tryz.ntmps72
   go_wp2_with (go_at_call 128;refine PT.out.mono ?_;rintro en w1 ⟨rfl,b1,n1,n2,A1,hpm,ht⟩)
   go_ret
   exact ⟨rfl,b1,n1,n2,A1,hpm,ht⟩
  ·have HE:Hid (P.write x s=(P,1)):=if_pos (.inr hs)
   rw [HE.out]
   have z:((s.size:Int) == 1024)=false:=by rw [beq_eq_false_iff_ne];omega
   have z2:((s.size:Int) != 1024)=true:=by rw [bne_iff_ne];omega
   clear H ok fit hx0 hs
   go_enter Tryz.func72,Tryz.ntmps72
   go_wp2_with fail
   go_ret
   exact ⟨rfl,b,m1,m2,A,HP.out,Turn.refl _ _⟩
theorem pool_Pages (b:List (Option Nat)) (gd g m1 m2 p e h t:Nat) (A:List Nat) (P:Pl) (w:World) (H:PM w b gd g m1 m2 p e h t A P):Calls Tryz.prog 16 #[.pointer (some ⟨p,0,none⟩)] w fun e w'=>e = .returned (.int .i64 P.pages)∧w=w':=by
 have x4:w.cell? ⟨p,4,none⟩=some (.int .i64 P.pages):=H.has.cell 4
 clear H
 go_enter Tryz.func16,Tryz.ntmps16
 go_wp2_with fail
 go_ret
 exact ⟨rfl,rfl⟩
end Go.Proofs.YtjihboddejaelaaGreat
