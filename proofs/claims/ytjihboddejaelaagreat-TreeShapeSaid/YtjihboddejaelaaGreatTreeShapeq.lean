/-
  relstorekeep.TreeShape returns true: whatever is put into a tree and deleted from it, all of its leaves are equally deep and linked in order, keys stand in order and between those of the nodes above, no node but the root is too empty, and no page is lost; behind Drop all pages are free. No condition.
-/
import Derived.Test.YtjihboddejaelaaGreatTs1
import Derived.Test.YtjihboddejaelaaGreatTs21
set_option linter.unusedVariables false
set_option linter.unusedSimpArgs false
set_option maxRecDepth 100000
set_option maxHeartbeats 100000000
namespace Go.Proofs.YtjihboddejaelaaGreat
open Go.ChangeShapes Go.WideShapes Go.ChangeAt Go.RowKit
theorem CU0 (os:Os) (started:os.Started) (H:Type) (enc:TypeId×Value→H) :
 ReturnsInHanded {} Tryz.checked os 3 .any (Rows.treeShapeSpec.pre6 enc Tryz.prog Tryz.f3 Rows.treeShapeRow.domain false) (Rows.treeShapeSpec.post enc Tryz.prog Tryz.f3 false true false false):=by
 refine returnsInHanded_of_change_sized (C:=Tryz.checked) GJ1 started (by kernel_rfl) Tryz.func3
  (ChangeSpec.witness6 (enc:=enc) (C:=Tryz.checked) false ⟨#[],#[.slice none 0 0],[]⟩ 8 (by kernel_rfl) (by kernel_rfl) (by kernel_rfl) (by kernel_rfl)) ?_
 intro W base args ds gs before hval0 hW hcnd hsz0 _;have hval:∀ (j:Nat) t v,Tryz.f3.params[j]? = some t→args[j]? = some v→Value.okWide Tryz.prog W .any base t v:=hval0;have hW':=hW;obtain ⟨p,q,hA0,hV,rfl,hfz,hnd⟩:=hW
 have hA:DataW.TrodAll enc Tryz.prog W 0 (fun _=>true) true Tryz.f3.params.toList args.toList ds p:=hA0
 have hsz:(DataW.weightsEach Tryz.prog (Tryz.f3.params.toList++Rows.treeShapeSpec.plain.varTypes Tryz.prog) (ds++gs)).all (·≤ reachBytes)=true:=hsz0
 rw [Tryz.params3] at hA hval hsz;obtain ⟨v0,vs0,d0,ds0,p0,q0,hargs,rfl,rfl,h0,r0⟩:=trodAll_cons hA;obtain ⟨rfl,rfl,rfl⟩:=trodAll_nil r0
 obtain rfl:args = #[v0]:=by cases args;simp_all
 obtain ⟨rfl,rfl⟩:=trodVars_none hV
 have lt0:∀ x∈p0,x.block<W.heap.size:=by obtain ⟨m,hm⟩:=h0;exact DataW.trod_lt m _ _ _ hm
 have k0:=h0;obtain ⟨A0,n0,c0,rfl⟩:=okWide_slice Tryz.underlying22 (hval 0 22 v0 rfl rfl);obtain ⟨a0,s0,l0,w0⟩:=TA0 h0
 have u0:=fun a (ha:a∈a0)=>(by obtain ⟨y,el,re,hd,hy,hr⟩:=w0 a ha;exact YJ0 hsz (j:=0) rfl (by rw [hd];rfl) hy hr:a.s.size≤140737488351232∧a.t.size≤140737488351232)
 clear hA0 hval0 hsz0
 refine (GT0 _ _ _ a0 W s0 l0 u0).mono fun e W' ⟨he,bel⟩=>?_
 subst he
 exact ⟨_,rfl,_,_,_,[],_,[],hW',trodAll_mk1 (shut_bool Tryz.underlying4 _),(trodAll_cons_mk (Below.trod AF1 (by kernel_rfl) (of_decide_eq_true (by kernel_rfl)) k0 bel lt0) trodAll_mk0),rfl,bel.frame _,fun h=>by cases h⟩
theorem GR0:Rows.treeShapeRow.holds Tryz.pinned (OpenSpec.ofChange Rows.treeShapeSpec) :=
 OpenClaim.holds_of_wide 3 Tryz.f3 rfl rfl rfl rfl rfl rfl rfl ⟨rfl,rfl,rfl,rfl,rfl⟩ rfl rfl rfl rfl rfl (by kernel_rfl) Tryz.func3 (by kernel_rfl)
  (of_decide_eq_true (by kernel_rfl)) (by unfold Func.isWrapper;first | (rw [if_pos (by decide +kernel)];kernel_rfl) | (rw [if_neg (by decide +kernel)];exact ⟨rfl,rfl⟩))
  (fun os started H enc _=>CU0 os started H enc)
theorem treeShape_holds:Rows.TreeShapeSaid:=GR0
#print axioms treeShape_holds
end Go.Proofs.YtjihboddejaelaaGreat
