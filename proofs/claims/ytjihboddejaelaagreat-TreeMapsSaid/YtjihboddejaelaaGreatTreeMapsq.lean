/-
  relstorelaw.TreeMaps returns true: whatever is done to two trees of one pool, each answers as the sorted map that goes with it does: what is put, deleted, got and told in both directions; what a commit keeps, what a drop leaves, and what comes back with a rollback. No condition.
-/
import Derived.Test.YtjihboddejaelaaGreatTm1
import Derived.Test.YtjihboddejaelaaGreatTm4
import Derived.Test.YtjihboddejaelaaGreatTm23
set_option linter.unusedVariables false
set_option linter.unusedSimpArgs false
set_option linter.defProp false
set_option maxRecDepth 100000
set_option maxHeartbeats 100000000
namespace Go.Proofs.YtjihboddejaelaaGreat
open Go.ChangeShapes Go.WideShapes Go.ChangeAt Go.RowKit
def JU0 (r:Os) (B:r.Started) (H:Type) (enc:TypeId×Value->H) :
 ReturnsInHanded {} Tryz.checked r 5 .any (Rows.treeMapsSpec.pre6 enc Tryz.prog Tryz.f5 Rows.treeMapsRow.domain false) (Rows.treeMapsSpec.post enc Tryz.prog Tryz.f5 false true false false):=by
 refine returnsInHanded_of_change_sized (C:=Tryz.checked) gQ B (by kernel_rfl) Tryz.func5
  (ChangeSpec.witness6 (enc:=enc) (C:=Tryz.checked) false ⟨#[],#[.slice none 0 0],[]⟩ 8 (by kernel_rfl) (by kernel_rfl) (by kernel_rfl) (by kernel_rfl)) ?_
 intro W D args s G R k u T l _;have n:∀(j:Nat) t v,Tryz.f5.params[j]? = some t->args[j]? = some v->Value.okWide Tryz.prog W .any D t v:=k;have E:=u;obtain⟨p,q,o,I,rfl,U,V⟩:=u;have w:DataW.TrodAll enc Tryz.prog W 0 (λ_=>true) true Tryz.f5.params.toList args.toList s p:=o;have c:(DataW.weightsEach Tryz.prog (Tryz.f5.params.toList++Rows.treeMapsSpec.plain.varTypes Tryz.prog) (s++G)).all (·<= reachBytes)=true:=l;rw[Tryz.params5]at w n c;obtain⟨z,X,Z,Y,p0,q0,S,rfl,rfl,d,J⟩:=trodAll_cons w;obtain⟨rfl,rfl,rfl⟩:=trodAll_nil J
 obtain rfl:args = #[z]:=by cases args;simp_all
 obtain⟨rfl,rfl⟩:=trodVars_none I
 have F:∀ x∈p0,x.block<W.heap.size:=by obtain⟨m,K⟩:=d;exact DataW.trod_lt m _ _ _ K
 have L:=d;obtain⟨A0,n0,c0,rfl⟩:=okWide_slice lY (n 0 52 z rfl rfl);obtain⟨A,M,N,l0,w0⟩:=FS1 d
 have u0:=λa (f:a∈A)=>(by obtain⟨y,O,P,g,i,b⟩:=w0 a f;exact OV1 b (MS1 c (j:=0) rfl (by rw[g];rfl) i b):a.Ok W)
 clear o k l;refine(OW0 _ _ _ A W ⟨M,N⟩ l0 (λa f=>by obtain⟨y,O,P,g,i,b⟩:=w0 a f;exact⟨ZZ0 c (j:=0) rfl (by rw[g];rfl) i b,PW1 b⟩)).mono λe W' ⟨Q,bel⟩=>?_;subst Q;exact⟨_,rfl,_,_,_,[],_,[],E,trodAll_mk1 (shut_bool Tryz.underlying4 _),(trodAll_cons_mk (Below.trod JH1 (by kernel_rfl) (PQ (by kernel_rfl)) L bel F) trodAll_mk0),rfl,bel.frame _,λh=>by cases h⟩
def QC0:Rows.treeMapsRow.holds Tryz.pinned (OpenSpec.ofChange Rows.treeMapsSpec) :=
 OpenClaim.holds_of_wide 5 Tryz.f5 rfl rfl rfl rfl rfl rfl rfl ⟨rfl,rfl,rfl,rfl,rfl⟩ rfl rfl rfl rfl rfl (by kernel_rfl) Tryz.func5 (by kernel_rfl)
  (PQ (by kernel_rfl)) (by unfold Func.isWrapper;first |(rw[AC (by decide +kernel)];kernel_rfl) |(rw[AO (by decide +kernel)];exact⟨rfl,rfl⟩))
  (λb a H enc _=>JU0 b a H enc)
theorem treeMaps_holds:Rows.TreeMapsSaid:=QC0
#print axioms treeMaps_holds
end Go.Proofs.YtjihboddejaelaaGreat
