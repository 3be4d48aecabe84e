/-
  relstorelaw.PoolRuns returns true: whatever is done to a pool of whatever many frames, the program's and the document's agree: what is told, which pages are held, what is counted, the files of their disks; with failures, crashes, and pools that are opened anew. No condition.
-/
import Derived.Test.YtjihboddejaelaaGreatPr4
import Derived.Test.YtjihboddejaelaaGreatLawQ5q
set_option linter.unusedVariables false
set_option linter.unusedSimpArgs false
namespace Go.Proofs.YtjihboddejaelaaGreat
open Go.ChangeShapes Go.WideShapes Go.ChangeAt Go.RowKit
set_option maxRecDepth 100000 in
theorem liftedPoolRuns (os:Os) (started:os.Started) (H:Type) (enc:TypeId×Value→H) :
 ReturnsInHanded {} Tryz.checked os 4 .any (Rows.poolRunsSpec.pre6 enc Tryz.prog Tryz.f4 Rows.poolRunsRow.domain false) (Rows.poolRunsSpec.post enc Tryz.prog Tryz.f4 false true false false):=by
 refine returnsInHanded_of_change_sized (C:=Tryz.checked) own2 started (by kernel_rfl) Tryz.func4
  (ChangeSpec.witness6 (enc:=enc) (C:=Tryz.checked) false ⟨#[],#[.int .i64 0,.slice none 0 0],[]⟩ 8 (by kernel_rfl) (by kernel_rfl) (by kernel_rfl) (by kernel_rfl)) ?_
 intro W base args ds gs before hval0 hW hcnd hsz0 _
 have hval:∀ (j:Nat) t v,Tryz.f4.params[j]? = some t→args[j]? = some v→Value.okWide Tryz.prog W .any base t v:=hval0
 have hW':=hW
 obtain ⟨p,q,hA0,hV,rfl,hfz,hnd⟩:=hW
 have hA:DataW.TrodAll enc Tryz.prog W 0 (fun _=>true) true Tryz.f4.params.toList args.toList ds p:=hA0
 have hsz:(DataW.weightsEach Tryz.prog (Tryz.f4.params.toList++Rows.poolRunsSpec.plain.varTypes Tryz.prog) (ds++gs)).all (·≤ reachBytes)=true:=hsz0
 rw [Tryz.params4] at hA hval hsz
 obtain ⟨v0,vs0,d0,ds0,p0,q0,hargs,rfl,rfl,h0,r0⟩:=trodAll_cons hA
 obtain ⟨v1,vs1,d1,ds1,p1,q1,rfl,rfl,rfl,h1,r1⟩:=trodAll_cons r0
 obtain ⟨rfl,rfl,rfl⟩:=trodAll_nil r1
 obtain rfl:args = #[v0,v1]:=by cases args;simp_all
 obtain ⟨rfl,rfl⟩:=trodVars_none hV
 have lt0:∀ x∈p0,x.block<W.heap.size:=by obtain ⟨m,hm⟩:=h0;exact DataW.trod_lt m _ _ _ hm
 have k0:=h0
 obtain ⟨a0,rfl,e0,_,w0⟩:=open_int Tryz.underlying3 (hval 0 3 v0 rfl rfl) h0
 have lt1:∀ x∈p1,x.block<W.heap.size:=by obtain ⟨m,hm⟩:=h1;exact DataW.trod_lt m _ _ _ hm
 have k1:=h1
 obtain ⟨A1,n1,c1,rfl⟩:=okWide_slice Tryz.underlying52 (hval 1 52 v1 rfl rfl)
 obtain ⟨a1,s1,t1,l1,w1⟩:=open_acts h1
 have u1:=fun a (ha:a∈a1)=>(by obtain ⟨y,el,re,hd,hy,hr⟩:=w1 a ha;exact act_ok hr (act_len hsz (j:=1) rfl (by rw [hd];rfl) hy hr):a.Ok W)
 clear hA0 hval0 hsz0
 refine (law_PoolRuns a0 _ _ _ a1 W ⟨s1,t1,u1⟩ l1 (fun a ha=>by obtain ⟨y,_,_,_,_,hr⟩:=w1 a ha;exact act_in hr)).mono fun e W' ⟨he,bel⟩=>?_
 subst he
 exact ⟨_,rfl,_,_,_,[],_,[],hW',trodAll_mk1 (shut_bool Tryz.underlying4 _),(trodAll_cons_mk (Below.trod laidOut2 (by kernel_rfl) (of_decide_eq_true (by kernel_rfl)) k0 bel lt0) (trodAll_cons_mk (Below.trod laidOut2 (by kernel_rfl) (of_decide_eq_true (by kernel_rfl)) k1 bel lt1) trodAll_mk0)),rfl,bel.frame _,fun h=>by cases h⟩
theorem overPoolRuns:Rows.poolRunsRow.holds Tryz.pinned (OpenSpec.ofChange Rows.poolRunsSpec) :=
 OpenClaim.holds_of_wide 4 Tryz.f4 rfl rfl rfl rfl rfl rfl rfl ⟨rfl,rfl,rfl,rfl,rfl⟩ rfl rfl rfl rfl rfl (by kernel_rfl) Tryz.func4 (by kernel_rfl)
  (of_decide_eq_true (by kernel_rfl)) (by unfold Func.isWrapper;first | (rw [if_pos (by decide +kernel)];kernel_rfl) | (rw [if_neg (by decide +kernel)];exact ⟨rfl,rfl⟩))
  (fun os started H enc _=>liftedPoolRuns os started H enc)
theorem poolRuns_holds:Rows.PoolRunsSaid:=overPoolRuns
#print axioms poolRuns_holds
end Go.Proofs.YtjihboddejaelaaGreat
