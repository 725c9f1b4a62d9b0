/- For every state of the store and every lot the law PromiseMore of layer 10 returns true, never panics, and leaves its arguments as they were; no condition. -/
import Derived.Test.YtgplnekpgdhcpaaGreatQLMore
import Derived.Test.YtgplnekpgdhcpaaGreatQOpen
import Derived.Test.YtgplnekpgdhcpaaGreatRows
import Derived.WalkKit
import Derived.ProofKit
import Derived.OpenShut
namespace Go.Proofs.YtgplnekpgdhcpaaGreat
open Go.ChangeShapes Go.WideShapes Go.ChangeAt Go.RowKit
theorem promiseMore_own:ownKnob Tryz.prog.godebug=none:=by kernel_rfl
theorem promiseMore_laidOut:laidOutB Tryz.prog=true:=by kernel_rfl
set_option maxRecDepth 100000 in
theorem promiseMore_lifted (os:Os) (started:os.Started) (H:Type) (enc:TypeId×Value->H) :
  ReturnsInHanded {} Tryz.checked os 6 .any (Rows.promiseMoreSpec.pre6 enc Tryz.prog Tryz.f6 Rows.promiseMoreRow.domain false) (Rows.promiseMoreSpec.post enc Tryz.prog Tryz.f6 false true false false):=by
 refine returnsInHanded_of_change_sized (C:=Tryz.checked) promiseMore_own started (by kernel_rfl) Tryz.func6
  (ChangeSpec.witness6 (enc:=enc) (C:=Tryz.checked) false ⟨#[],#[.agg #[.int .i64 0,.int .i64 0,.int .i64 0,.slice none 0 0,.slice none 0 0,.slice none 0 0],.agg #[.int .i64 0,.string ⟨#[]⟩,.int .i64 0,.int .i64 0,.int .i64 0,.bool false]],[]⟩ 8 (by kernel_rfl) (by kernel_rfl) (by kernel_rfl) (by kernel_rfl)) ?_
 intro W base args ds gs before hval0 hW hcnd hsz0 _
 have hval:∀ (j:Nat) t v,Tryz.f6.params[j]? = some t->args[j]? = some v->Value.okWide Tryz.prog W .any base t v:=hval0
 have hW':=hW
 obtain⟨p,q,hA0,hV,rfl,hfz,hnd⟩:=hW
 have hA:DataW.TrodAll enc Tryz.prog W 0 (fun _=>true) true Tryz.f6.params.toList args.toList ds p:=hA0
 have hsz:(DataW.weightsEach Tryz.prog (Tryz.f6.params.toList ++ Rows.promiseMoreSpec.plain.varTypes Tryz.prog) (ds ++ gs)).all (·<=reachBytes)=true:=hsz0
 rw[Tryz.params6] at hA hval hsz
 obtain⟨v0,vs0,d0,ds0,p0,q0,hargs,rfl,rfl,h0,r0⟩:=trodAll_cons hA
 obtain⟨v1,vs1,d1,ds1,p1,q1,rfl,rfl,rfl,h1,r1⟩:=trodAll_cons r0
 obtain⟨rfl,rfl,rfl⟩:=trodAll_nil r1
 obtain rfl:args = #[v0,v1]:=by cases args;simp_all
 obtain⟨rfl,rfl⟩:=trodVars_none hV
 have k0:=h0
 have lt0:∀ x∈p0,x.block < W.heap.size:=by obtain⟨m,hm⟩:=k0;exact DataW.trod_lt m _ _ _ hm
 have z0:Sized 26 d0:=fun n hn=>of_decide_eq_true (List.all_eq_true.1 hsz n (DataW.weights_mem_each (j:=0) rfl rfl n hn))
 obtain⟨cs0,rfl,hcs⟩:=okWide_struct Tryz.underlying26 (hval 0 26 v0 rfl rfl)
 have k1:=h1
 have lt1:∀ x∈p1,x.block < W.heap.size:=by obtain⟨m,hm⟩:=k1;exact DataW.trod_lt m _ _ _ hm
 obtain⟨cs1,rfl,hcs1⟩:=okWide_struct Tryz.underlying50 (hval 1 50 v1 rfl rfl)
 obtain⟨fuel1,hf1⟩:=h1
 obtain⟨y1,ey1,oy1⟩:=open_lotQ hf1
 have el1:cs1=(encLot y1).toArray:=by
  simp[Value.cells] at ey1
  cases cs1;simp_all
 subst el1
 obtain⟨fuel0,hf0⟩:=h0
 obtain⟨now,nl,nx,a1,n1,c1,X,a2,n2,c2,L,a3,n3,c3,N,e0,hnow,hX,hlow,hL,hN⟩:=open_stateQ hf0 z0
 have e1:cs0 = #[.int .i64 now,.int .i64 nl,.int .i64 nx,.slice a1 n1 c1,.slice a2 n2 c2,.slice a3 n3 c3]:=by
  simp[Value.cells] at e0
  cases cs0;simp_all
 subst e1
 clear hA0 hval0
 refine (PromiseMore_any _ now nl nx a1 n1 c1 X a2 n2 c2 L a3 n3 c3 N y1 W hX hL hN (fun x hx=>by
  obtain⟨i,hi,rfl⟩:=List.mem_iff_getElem.1 hx
  have:=hlow i hi
  rw[List.getD_eq_getElem?_getD,List.getElem?_eq_getElem hi] at this
  exact⟨this.2.1,this.2.2.1⟩) (Nat.le_refl _) oy1).mono fun e W' ⟨he,bel⟩=>?_
 subst he
 exact⟨_,rfl,_,_,_,[],_,[],hW',trodAll_mk1 (shut_bool Tryz.underlying4 _),(trodAll_cons_mk (Below.trod promiseMore_laidOut (by kernel_rfl) (of_decide_eq_true (by kernel_rfl)) k0 bel lt0) (trodAll_cons_mk (Below.trod promiseMore_laidOut (by kernel_rfl) (of_decide_eq_true (by kernel_rfl)) k1 bel lt1) trodAll_mk0)),rfl,bel.frame _,fun h=>by cases h⟩
theorem promiseMore_over:Rows.promiseMoreRow.holds Tryz.pinned (OpenSpec.ofChange Rows.promiseMoreSpec) :=
 OpenClaim.holds_of_wide 6 Tryz.f6 rfl rfl rfl rfl rfl rfl rfl ⟨rfl,rfl,rfl,rfl,rfl⟩ rfl rfl rfl rfl rfl (by kernel_rfl) Tryz.func6 (by kernel_rfl)
  (of_decide_eq_true (by kernel_rfl)) (by unfold Func.isWrapper;first | (rw[if_pos (by decide +kernel)];kernel_rfl) | (rw[if_neg (by decide +kernel)];exact⟨rfl,rfl⟩))
  (fun os started H enc _=>promiseMore_lifted os started H enc)
theorem promiseMore_holds:Rows.PromiseMoreSaid :=
 promiseMore_over
#print axioms promiseMore_holds
end Go.Proofs.YtgplnekpgdhcpaaGreat
